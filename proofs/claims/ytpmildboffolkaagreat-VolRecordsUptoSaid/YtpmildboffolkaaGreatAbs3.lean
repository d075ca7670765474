/-
  The interpreter's operations that read, make blocks, store, copy and append are sound over the model; the conditions stand in each theorem.
-/
import Derived.Test.YtpmildboffolkaaGreatAbs2
import Derived.Laws.BytesString
import Derived.Laws.BytesArg
import Derived.Test.YtpmildboffolkaaGreatAbs1
import Derived.Laws.MakeOwn
import Derived.Laws.NewFold
import Derived.Laws.Append
import Derived.Laws.AppendOwn
set_option linter.unusedVariables false
set_option linter.unusedSimpArgs false
namespace Go.Proofs.YtpmildboffolkaaGreat.Abs
variable {P : Program} {ρ : Env} {H : AHeap} {w : World}

/-! ## Constants -/
theorem packed_str (s : ByteArray) : (AV.str s.data.toList.length (packL s.data.toList 0)).conc ρ = some (.string s) := by
  refine conc_str.2 ⟨?_, ?_⟩
  · simpa using packL_lt s.data.toList 0 0 (pw_pos 0)
  · have e := bytesL_packL s.data.toList 0 0 (pw_pos 0)
    simp only [Nat.zero_add, bytesL, List.range_zero, List.map_nil, List.nil_append] at e
    unfold strV
    congr 1
    apply ByteArray.ext
    apply Array.ext'
    show s.data.toList = (bytesL s.data.toList.length (packL s.data.toList 0)).toArray.toList
    simp only [bytesL]
    rw [e]

theorem litCell_conc {v : Value} {x : AV} (h : litCell v = some x) : x.conc ρ = some v ∧ v.oneCell' = true := by
  unfold litCell at h
  split at h <;> cases h <;> first
    | exact ⟨rfl, rfl⟩
    | exact ⟨packed_str _, rfl⟩

theorem litCells_conc : ∀ {vs : List Value} {xs : List AV}, litCells vs = some xs → AV.concL ρ xs = some vs ∧ vs.all Value.oneCell' = true
  | [], xs, h => by simp [litCells] at h; subst h; exact ⟨rfl, rfl⟩
  | v :: vs, xs, h => by
    unfold litCells at h
    split at h
    · rename_i x hx
      split at h
      · rename_i l hl
        cases h
        obtain ⟨h1, h2⟩ := litCell_conc (ρ := ρ) hx
        obtain ⟨h3, h4⟩ := litCells_conc hl
        exact ⟨concL_cons.2 ⟨v, vs, h1, h3, rfl⟩, by simp [h2, h4]⟩
      · cases h
    · cases h

theorem ofLit_conc {v : Value} {x : AV} (h : ofLit v = some x) : x.conc ρ = some v := by
  unfold ofLit at h
  split at h
  · split at h
    · rename_i vs l hl
      cases h
      obtain ⟨h1, h2⟩ := litCells_conc (ρ := ρ) hl
      exact conc_agg.2 ⟨_, h1, h2, by simp⟩
    · cases h
  · split at h
    · rename_i vs l hl
      cases h
      obtain ⟨h1, h2⟩ := litCells_conc (ρ := ρ) hl
      exact conc_tuple.2 ⟨_, h1, by simp⟩
    · cases h
  · exact (litCell_conc h).1

theorem zeroT_sound {t : Nat} {z : AV} (h : zeroT P t = some z) : ∃ v, z.conc ρ = some v ∧ ∀ w, (zeroValue t).run P w = .ok v w := by
  unfold zeroT at h
  split at h
  · rename_i i hi
    split at h
    · rename_i v hv
      exact ⟨v, ofLit_conc h, fun w => by simp [zeroValue, typeInfo, hi, hv]⟩
    · cases h
  · cases h

/-- the cells of a value -/
theorem cells_conc {v : AV} {c : Value} {l : List AV} (hv : v.conc ρ = some c) (h : v.cells = some l) : AV.concL ρ l = some c.cells.toList ∧ c.cells.toList.all Value.oneCell' = true := by
  cases v with
  | agg l' =>
    cases h
    obtain ⟨vs, h1, h2, rfl⟩ := conc_agg.1 hv
    exact ⟨by simpa [Value.cells] using h1, by simpa [Value.cells] using h2⟩
  | tuple l' => cases h
  | bool b => cases h; cases hv; exact ⟨rfl, rfl⟩
  | int k n => cases h; cases hv; exact ⟨rfl, rfl⟩
  | str a b =>
    cases h
    obtain ⟨h1, rfl⟩ := conc_str.1 hv
    exact ⟨concL_cons.2 ⟨_, _, hv, rfl, rfl⟩, rfl⟩
  | nilp => cases h; cases hv; exact ⟨rfl, rfl⟩
  | ptr a b =>
    cases h
    obtain ⟨cb, h1, rfl⟩ := conc_ptr.1 hv
    exact ⟨concL_cons.2 ⟨_, _, hv, rfl, rfl⟩, rfl⟩
  | nils => cases h; cases hv; exact ⟨rfl, rfl⟩
  | slice a b d e =>
    cases h
    obtain ⟨cb, n, h1, rfl, _⟩ := conc_slice hv
    exact ⟨concL_cons.2 ⟨_, _, hv, rfl, rfl⟩, rfl⟩
  | send a b d e f =>
    cases h
    obtain ⟨cb, h1, _, rfl⟩ := conc_send hv
    exact ⟨concL_cons.2 ⟨_, _, hv, rfl, rfl⟩, rfl⟩
  | nilm => cases h; cases hv; exact ⟨rfl, rfl⟩
  | map a =>
    cases h
    obtain ⟨cb, h1, rfl⟩ := conc_map.1 hv
    exact ⟨concL_cons.2 ⟨_, _, hv, rfl, rfl⟩, rfl⟩
  | yield a =>
    cases h
    have hv' := hv
    simp only [AV.conc] at hv'
    split at hv' <;> cases hv'
    exact ⟨concL_cons.2 ⟨_, _, hv, rfl, rfl⟩, rfl⟩
  | func a b d =>
    cases h
    have hv' := hv
    simp only [AV.conc] at hv'
    split at hv' <;> cases hv'
    exact ⟨concL_cons.2 ⟨_, _, hv, rfl, rfl⟩, rfl⟩
  | nilf => cases h; cases hv; exact ⟨rfl, rfl⟩
  | iface a b =>
    cases h
    obtain ⟨x, h1, rfl⟩ := conc_iface.1 hv
    exact ⟨concL_cons.2 ⟨_, _, hv, rfl, rfl⟩, rfl⟩
  | nili => cases h; cases hv; exact ⟨rfl, rfl⟩

/-! ## Maps -/
theorem asMapO_eq {e : Option AEnt} {es : List (AV × AV × Nat)} {c : Nat} (h : asMapO e = some (es, c)) : ∃ lk, e = some ⟨.map es c, lk⟩ := by
  unfold asMapO at h
  split at h
  · cases h; exact ⟨_, rfl⟩
  · cases h

theorem HRel.mapO (hH : HRel P ρ H w) {r : Nat} {es : List (AV × AV × Nat)} {c : Nat} (h : asMapO (H.get r) = some (es, c)) :
    ∃ lk cr l, H.get r = some ⟨.map es c, lk⟩ ∧ ρ.blk r = some cr ∧ concE ρ es = some l ∧ w.heap[cr]? = some (.map l.toArray c) := by
  obtain ⟨lk, hg⟩ := asMapO_eq h
  obtain ⟨cr, o, h1, h2, h3⟩ := hH.obj r _ hg
  obtain ⟨l, h4, rfl⟩ := h3
  exact ⟨lk, cr, l, hg, h1, h4, h2⟩

theorem run_getObj_map {cr c : Nat} {a : Array MapEntry} (h : w.heap[cr]? = some (.map a c)) : (getObj cr).run P w = .ok (.map a c) w := by
  simp [getObj, Sem.run, h]

theorem keyT_desc {t : Nat} (h : keyT P t = true) : ∃ d, P.underlying t = some d ∧ keyD d = true := by
  unfold keyT at h
  split at h
  · rename_i d hd; exact ⟨d, hd, h⟩
  · cases h
theorem mapT_eq {t kt et : Nat} (h : mapT P t = some (kt, et)) : P.underlying t = some (.map kt et) ∧ keyT P kt = true := by
  unfold mapT at h
  split at h
  · rename_i d hd
    split at h
    · rename_i k e hm
      split at h
      · rename_i hk
        cases h
        exact ⟨by rw [hd, mapD_eq hm], hk⟩
      · cases h
    · cases h
  · cases h

theorem run_checkKey_ok {kt : Nat} (hk : keyT P kt = true) (e : Bool) (n : Nat) (v : Value) : (Instr.checkKey e (n + 1) kt v).run P w = .ok () w := by
  obtain ⟨d, hd, hkd⟩ := keyT_desc hk
  unfold keyD at hkd
  split at hkd <;> first | (cases hkd; done) | simp [Instr.checkKey, run_underlying hd]

/-- the model's quick look agrees with its slow one -/
theorem sameNow_equal {d : TypeDesc} {t : Nat} {a b : Value} {r r' : Bool} (hd : P.underlying t = some d) (h : Instr.sameNow d a b = some r) (h' : (Op.equal t a b).run P w = .ok r' w) : r = r' := by
  have e : (Op.equalIn (9999 + 1) t a b).run P w = .ok r' w := by
    have e0 : Op.equal t a b = Op.equalIn (9999 + 1) t a b := rfl
    rw [e0] at h'; exact h'
  unfold Instr.sameNow at h
  split at h
  · rename_i k1 k a k' b
    split at h
    · rename_i hk
      subst hk
      cases h
      rw [run_equalIn_int w 9999 t k k1 a b hd] at e
      cases e; rfl
    · cases h
  · cases h
    rw [run_equalIn_string w 9999 t _ _ hd] at e
    cases e
    rw [beq_toListBytes]
  · cases h
    rw [run_equalIn_bool' w 9999 t _ _ hd] at e
    cases e; rfl
  · cases h

/-- what a search in a map comes to -/
def FoundRel (ρ : Env) : Option (Nat × AV) → Option (Nat × Value) → Prop
  | none, none => True
  | some (i, v), some (j, c) => i = j ∧ v.conc ρ = some c
  | _, _ => False

theorem findK_sound (hH : HRel P ρ H w) {kt : Nat} {d : TypeDesc} (hd : P.underlying kt = some d) {k : AV} {ck : Value} (hk : k.conc ρ = some ck) : ∀ (es : List (AV × AV × Nat)) (l : List MapEntry) (i : Nat) {r : Option (Nat × AV)},
    concE ρ es = some l → findK (eqV P H 8 kt) k es i = some r → ∃ r', FoundRel ρ r r' ∧ (Instr.findAsking kt ck l i).run P w = .ok r' w ∧ ∀ r'', Instr.findNow d ck l i = some r'' → r'' = r'
  | [], l, i, r, he, h => by
    simp [concE] at he
    subst he
    simp [findK] at h
    subst h
    exact ⟨none, trivial, by simp [Instr.findAsking], by intro r'' hr; simp [Instr.findNow] at hr; exact hr.symm⟩
  | (k', v, n) :: es, l, i, r, he, h => by
    obtain ⟨a, b, l', h1, h2, h3, rfl⟩ := concE_cons.1 he
    simp only [findK] at h
    cases hq : eqV P H 8 kt k k' with
    | none => rw [hq] at h; cases h
    | some q =>
      rw [hq] at h
      have e := eqV_sound hH 8 kt k k' ck a q hk h1 hq 10000 (by decide)
      have e' : (Op.equal kt ck a).run P w = .ok q w := by simpa [Op.equal, Op.maxDepth] using e
      cases q with
      | true =>
        cases h
        refine ⟨some (i, b), ⟨rfl, h2⟩, by simp [Instr.findAsking, e'], ?_⟩
        intro r'' hr
        unfold Instr.findNow at hr
        split at hr
        · cases hr; rfl
        · rename_i hs
          have := sameNow_equal (w := w) hd hs e'
          cases this
        · cases hr
      | false =>
        obtain ⟨r', g1, g2, g3⟩ := findK_sound hH hd hk es l' (i + 1) h3 h
        refine ⟨r', g1, by simp [Instr.findAsking, e', g2], ?_⟩
        intro r'' hr
        unfold Instr.findNow at hr
        split at hr
        · rename_i hs
          have := sameNow_equal (w := w) hd hs e'
          cases this
        · exact g3 r'' hr
        · cases hr

theorem findKey_sound (hH : HRel P ρ H w) {kt : Nat} (hkt : keyT P kt = true) {k : AV} {ck : Value} (hk : k.conc ρ = some ck) {es : List (AV × AV × Nat)} {l : List MapEntry} {r : Option (Nat × AV)}
    (he : concE ρ es = some l) (h : findK (eqV P H 8 kt) k es 0 = some r) : ∃ r', FoundRel ρ r r' ∧ (Instr.findKey kt ck l).run P w = .ok r' w := by
  obtain ⟨d, hd, _⟩ := keyT_desc hkt
  obtain ⟨r', h1, h2, h3⟩ := findK_sound hH hd hk es l 0 he h
  refine ⟨r', h1, ?_⟩
  unfold Instr.findKey
  rw [Sem.run_bind, run_underlying hd, Result.andThen_ok]
  cases hn : Instr.findNow d ck l 0 with
  | none => simpa using h2
  | some r'' => rw [h3 r'' hn]; rfl

theorem entriesOf_sound (hH : HRel P ρ H w) {m : AV} {cm : Value} {es : List (AV × AV × Nat)} (hm : m.conc ρ = some cm) (h : entriesOf H m = some es) :
    ∃ l, concE ρ es = some l ∧ ((cm = .map none ∧ l = []) ∨ ∃ cr c, cm = .map (some cr) ∧ w.heap[cr]? = some (.map l.toArray c)) := by
  unfold entriesOf at h
  split at h
  · rename_i r hr
    rw [asMap_eq hr] at hm
    obtain ⟨cr, h1, rfl⟩ := conc_map.1 hm
    split at h
    · rename_i es' c hes
      cases h
      obtain ⟨lk, cr', l, h2, h3, h4, h5⟩ := hH.mapO hes
      rw [h1] at h3; cases h3
      exact ⟨l, h4, .inr ⟨cr, c, rfl, h5⟩⟩
    · cases h
  · split at h
    · rename_i hn
      rw [isNilm_eq hn] at hm
      cases hm; cases h
      exact ⟨[], rfl, .inl ⟨rfl, rfl⟩⟩
    · cases h

theorem withOk_conc {ok b : Bool} {v : AV} {c : Value} (h : v.conc ρ = some c) : (withOk ok v b).conc ρ = some (if ok then .tuple #[c, .bool b] else c) := by
  cases ok with
  | false => simpa [withOk] using h
  | true =>
    simp only [withOk, if_true]
    exact conc_tuple.2 ⟨[c, .bool b], concL_cons.2 ⟨_, _, h, rfl, rfl⟩, rfl⟩

theorem lookupC_sound (hH : HRel P ρ H w) {t : Nat} {ok : Bool} {m k v : AV} {cm ck : Value} (hm : m.conc ρ = some cm) (hk : k.conc ρ = some ck) (h : (lookupC P t ok).run H m k = some v) :
    ∃ c, v.conc ρ = some c ∧ (Instr.lookup t cm ck ok).run P w = .ok c w := by
  unfold lookupC at h
  split at h
  · rename_i kt et hmt
    obtain ⟨hu, hkt⟩ := mapT_eq hmt
    simp only [] at h
    split at h
    · rename_i es hes
      obtain ⟨l, he, hcm⟩ := entriesOf_sound hH hm hes
      have hb : ∃ r, findK (eqV P H 8 kt) k es 0 = some r := by
        split at h
        · rename_i i v' hf; exact ⟨_, hf⟩
        · rename_i hf; exact ⟨_, hf⟩
        · cases h
      obtain ⟨r, hf⟩ := hb
      rw [hf] at h
      obtain ⟨r', h1, h2⟩ := findKey_sound hH hkt hk he hf
      cases r with
      | none =>
        cases r' with
        | some x => exact h1.elim
        | none =>
          simp only [] at h
          cases hz : zeroT P et with
          | none => rw [hz] at h; cases h
          | some z =>
            rw [hz] at h
            cases h
            obtain ⟨cz, g1, g2⟩ := zeroT_sound (ρ := ρ) hz
            refine ⟨_, withOk_conc g1, ?_⟩
            rcases hcm with ⟨rfl, rfl⟩ | ⟨cr, cc, rfl, hw⟩
            · simp [Instr.lookup, run_underlying hu, run_checkKey_ok hkt, h2, g2]
            · simp [Instr.lookup, run_underlying hu, run_getObj_map hw, run_checkKey_ok hkt, h2, g2]
      | some x =>
        obtain ⟨i, v'⟩ := x
        cases r' with
        | none => exact h1.elim
        | some y =>
          obtain ⟨j, c⟩ := y
          cases h
          refine ⟨_, withOk_conc h1.2, ?_⟩
          rcases hcm with ⟨rfl, rfl⟩ | ⟨cr, cc, rfl, hw⟩
          · simp [Instr.lookup, run_underlying hu, run_checkKey_ok hkt, h2]
          · simp [Instr.lookup, run_underlying hu, run_getObj_map hw, run_checkKey_ok hkt, h2]
    · cases h
  · cases h

end Go.Proofs.YtpmildboffolkaaGreat.Abs

namespace Go.Proofs.YtpmildboffolkaaGreat.Abs
variable {P : Program} {ρ : Env} {H : AHeap} {w : World}

/-! ## More operations that look at most -/
theorem asIter_eq {e : Option AEnt} {m : Option Nat} {s c : Nat} {l : List Nat} (h : asIter e = some (m, s, l, c)) : ∃ lk, e = some ⟨.mapIter m s l c, lk⟩ := by
  unfold asIter at h
  split at h
  · cases h; exact ⟨_, rfl⟩
  · cases h

theorem lastOf_eq : ∀ l : List Nat, lastOf l = l.getLast?
  | [] => rfl
  | [x] => rfl
  | x :: y :: l => by
    have := lastOf_eq (y :: l)
    simp only [lastOf] at this ⊢
    rw [this, List.getLast?_cons_cons]

theorem findBorn_sound : ∀ {es : List (AV × AV × Nat)} {l : List MapEntry} {n : Nat} {k v : AV}, concE ρ es = some l → findBorn n es = some (k, v) →
    ∃ e, l.find? (·.born == n) = some e ∧ k.conc ρ = some e.key ∧ v.conc ρ = some e.val
  | [], l, n, k, v, _, h => by simp [findBorn] at h
  | (k', v', m) :: es, l, n, k, v, he, h => by
    obtain ⟨a, b, l', h1, h2, h3, rfl⟩ := concE_cons.1 he
    simp only [findBorn] at h
    split at h
    · rename_i hb
      cases h
      have : m = n := Nat.eq_of_beq_eq_true hb
      refine ⟨{ key := a, val := b, born := m }, ?_, h1, h2⟩
      simp [this]
    · rename_i hb
      obtain ⟨e, g1, g2, g3⟩ := findBorn_sound h3 h
      refine ⟨e, ?_, g2, g3⟩
      have : m ≠ n := by rintro rfl; simp at hb
      simp [this, g1]

theorem entryV_sound (hH : HRel P ρ H w) {x v : AV} {cx : Value} (hx : x.conc ρ = some cx) (h : entryV H x = some v) : ∃ c, v.conc ρ = some c ∧ (Instr.entry cx).run P w = .ok c w := by
  unfold entryV at h
  split at h
  · rename_i r hp
    rw [asPtr_eq hp] at hx
    obtain ⟨cr, h1, rfl⟩ := conc_ptr.1 hx
    split at h
    · rename_i m s seen stepped hi
      obtain ⟨lk, hg⟩ := asIter_eq hi
      obtain ⟨cr', o, h2, h3, cm, h4, rfl⟩ := hH.obj r _ hg
      rw [h1] at h2; cases h2
      split at h
      · rename_i stamp es clock hl hm
        obtain ⟨lk', cm', l, h5, h6, h7, h8⟩ := hH.mapO hm
        rw [h4] at h6; cases h6
        split at h
        · rename_i hb
          have hcs : clock = stepped := Nat.eq_of_beq_eq_true hb
          subst hcs
          split at h
          · rename_i k v' hf
            cases h
            obtain ⟨e, g1, g2, g3⟩ := findBorn_sound h7 hf
            refine ⟨.tuple #[e.key, e.val], conc_tuple.2 ⟨[e.key, e.val], concL_cons.2 ⟨_, _, g2, concL_cons.2 ⟨_, _, g3, rfl, rfl⟩, rfl⟩, rfl⟩, ?_⟩
            rw [lastOf_eq] at hl
            have hback : seen.toArray.back? = some stamp := by simpa using hl
            have hfind : l.toArray.find? (·.born == stamp) = some e := by simpa using g1
            simp [Instr.entry, getObj, Sem.run, h3, h8, hback, hfind]
          · cases h
        · cases h
      · cases h
    · cases h
  · cases h

theorem lenC_sound (hH : HRel P ρ H w) {t ty : Nat} {x v : AV} {cx : Value} (hx : x.conc ρ = some cx) (h : (lenC P t).run H x = some v) :
    ∃ c, v.conc ρ = some c ∧ (Builtin.len_ #[t] ty #[cx]).run P w = .ok c w := by
  unfold lenC at h
  split at h
  · rename_i hu
    simp only [] at h
    split at h
    · rename_i l n ha
      rw [asStr_eq ha] at hx
      obtain ⟨e1, rfl⟩ := conc_str.1 hx
      cases h
      refine ⟨_, rfl, ?_⟩
      have hsz : (⟨(bytesL l n).toArray⟩ : ByteArray).size = l := by show (bytesL l n).toArray.size = l; simp
      simp [Builtin.len_, run_underlying hu, strV, hsz, goInt]
    · cases h
  · rename_i e hu
    simp only [] at h
    split at h
    · rename_i l hl
      cases h
      refine ⟨_, rfl, ?_⟩
      have : ∃ a n, cx = .slice a l n := by
        unfold sliceLen at hl
        split at hl <;> cases hl
        · obtain ⟨cb, n, _, rfl, _⟩ := conc_slice hx; exact ⟨_, _, rfl⟩
        · cases hx; exact ⟨_, _, rfl⟩
        · obtain ⟨cb, _, _, rfl⟩ := conc_send hx; exact ⟨_, _, rfl⟩
      obtain ⟨a, n, rfl⟩ := this
      simp [Builtin.len_, run_underlying hu, goInt]
    · cases h
  · rename_i k e hu
    simp only [] at h
    split at h
    · rename_i es hes
      cases h
      refine ⟨_, rfl, ?_⟩
      obtain ⟨l, he, hcm⟩ := entriesOf_sound hH hx hes
      have hlen : ∀ (es : List (AV × AV × Nat)) (l : List MapEntry), concE ρ es = some l → l.length = es.length := by
        intro es
        induction es with
        | nil => intro l he; simp [concE] at he; subst he; rfl
        | cons x es ih =>
          intro l he
          obtain ⟨k, v, n⟩ := x
          obtain ⟨a, b, r, _, _, h3, rfl⟩ := concE_cons.1 he
          simp [ih r h3]
      rcases hcm with ⟨rfl, rfl⟩ | ⟨cr, c, rfl, hw⟩
      · have := hlen es [] he
        simp [Builtin.len_, run_underlying hu, goInt, ← this]
      · have := hlen es l he
        simp [Builtin.len_, run_underlying hu, goInt, run_getObj_map hw, this]
    · cases h
  · rename_i n e hu
    cases h
    exact ⟨_, rfl, by simp [Builtin.len_, run_underlying hu, goInt]⟩
  · cases h

theorem capC_sound {t ty : Nat} {x v : AV} {cx : Value} (hx : x.conc ρ = some cx) (h : (capC P t).run x = some v) :
    ∃ c, v.conc ρ = some c ∧ (Builtin.cap_ #[t] ty #[cx]).run P w = .ok c w := by
  unfold capC at h
  split at h
  · rename_i e hu
    simp only [] at h
    split at h
    · rename_i b o l n ha
      rw [asSlice_eq ha] at hx
      obtain ⟨cb, m, e1, rfl, e2, e3⟩ := conc_slice hx
      cases h
      simp only [CapOk] at e3
      subst e3
      exact ⟨_, rfl, by simp [Builtin.cap_, run_underlying hu, goInt]⟩
    · cases h
    · split at h
      · rename_i hn
        rw [isNils_eq hn] at hx
        cases hx; cases h
        exact ⟨_, rfl, by simp [Builtin.cap_, run_underlying hu, goInt]⟩
      · cases h
  · cases h

theorem minV_sound {ts : Array TypeId} {ty : TypeId} {x y v : AV} {cx cy : Value} (hx : x.conc ρ = some cx) (hy : y.conc ρ = some cy) (h : minV x y = some v) :
    ∃ c, v.conc ρ = some c ∧ (Builtin.min_ ts ty #[cx, cy]).run P w = .ok c w := by
  unfold minV at h
  split at h
  · rename_i k a k' b ha hb
    rw [asInt_eq ha] at hx; rw [asInt_eq hb] at hy
    cases hx; cases hy
    split at h
    · cases h
      refine ⟨_, rfl, ?_⟩
      simp only [Builtin.min_, List.foldlM, Builtin.min2, Sem.run_bind, Sem.run_pure, Result.andThen_ok, ble_eq]
      congr 2
      by_cases hle : a ≤ b
      · have : ¬ b < a := by omega
        simp [hle, this]
      · have : b < a := by omega
        simp [hle, this]
    · cases h
  · cases h
theorem maxV_sound {ts : Array TypeId} {ty : TypeId} {x y v : AV} {cx cy : Value} (hx : x.conc ρ = some cx) (hy : y.conc ρ = some cy) (h : maxV x y = some v) :
    ∃ c, v.conc ρ = some c ∧ (Builtin.max_ ts ty #[cx, cy]).run P w = .ok c w := by
  unfold maxV at h
  split at h
  · rename_i k a k' b ha hb
    rw [asInt_eq ha] at hx; rw [asInt_eq hb] at hy
    cases hx; cases hy
    split at h
    · cases h
      refine ⟨_, rfl, ?_⟩
      simp only [Builtin.max_, List.foldlM, Builtin.max2, Sem.run_bind, Sem.run_pure, Result.andThen_ok, ble_eq]
      congr 2
      by_cases hle : b ≤ a
      · have : ¬ b > a := by omega
        simp [hle, this]
      · have : b > a := by omega
        simp [hle, this]
    · cases h
  · cases h

theorem assertC_sound {t u : Nat} {ok : Bool} {x v : AV} {cx : Value} (hx : x.conc ρ = some cx) (h : (assertC P t ok).run x = some v) : ∃ c, v.conc ρ = some c ∧ (Instr.typeAssert cx u t ok).run P w = .ok c w := by
  unfold assertC at h
  split at h
  · cases h
  · rename_i d hd hu
    simp only [] at h
    split at h
    · rename_i t' v' ha
      rw [asIface_eq ha] at hx
      obtain ⟨c, e1, rfl⟩ := conc_iface.1 hx
      split at h
      · rename_i hb
        have : t' = t := Nat.eq_of_beq_eq_true hb
        subst this
        cases h
        refine ⟨_, withOk_conc e1, ?_⟩
        have hni : ∀ ms, d ≠ .interface ms := fun ms e => hd ms e
        cases d <;> first | exact absurd rfl (hni _) | (simp [Instr.typeAssert, run_underlying hu]; done) | skip
      · cases h
    · cases h
  · cases h

theorem extractC_sound {i : Nat} {x v : AV} {cx : Value} (hx : x.conc ρ = some cx) (h : extractC i x = some v) : ∃ c, v.conc ρ = some c ∧ (Instr.extract cx i).run P w = .ok c w := by
  unfold extractC at h
  split at h
  · rename_i l hl
    rw [asTuple_eq hl] at hx
    obtain ⟨vs, e1, rfl⟩ := conc_tuple.1 hx
    obtain ⟨c, e2, e3⟩ := concL_nth e1 h
    exact ⟨c, e3, by simp [Instr.extract, e2]⟩
  · cases h

/-! ### Building -/
theorem foldl_set (off : Nat) : ∀ (vs : List Value) (i : Nat) (arr : Array Value), off + i + vs.length ≤ arr.size →
    (vs.zipIdx i).foldl (fun (cs : Array Value) (p : Value × Nat) => cs.setIfInBounds (off + p.2) p.1) arr = (arr.toList.take (off + i) ++ vs ++ arr.toList.drop (off + i + vs.length)).toArray
  | [], i, arr, _ => by simp
  | v :: vs, i, arr, h => by
    have hl : off + i + (vs.length + 1) ≤ arr.size := by simpa using h
    simp only [List.zipIdx_cons, List.foldl_cons]
    rw [foldl_set off vs (i + 1) (arr.setIfInBounds (off + i) v) (by simp; omega)]
    have e := list_seg_step arr.toList (off + i) v vs (by simpa using hl)
    congr 1
    simpa [Array.toList_setIfInBounds, Nat.add_assoc] using e

/-- parts of a literal -/
def ConcP (ρ : Env) : List (Nat × AV) → List (Nat × Value) → Prop
  | [], [] => True
  | (i, v) :: l, (j, c) :: r => i = j ∧ v.conc ρ = some c ∧ ConcP ρ l r
  | _, _ => False

theorem fillL_sound {place : Nat → Option (Nat × Nat)} : ∀ {ps : List (Nat × AV)} {cps : List (Nat × Value)} {c c' : List AV} {vs : List Value}, ConcP ρ ps cps → AV.concL ρ c = some vs → vs.all Value.oneCell' = true →
    fillL place c ps = some c' → ∃ vs', AV.concL ρ c' = some vs' ∧ vs'.all Value.oneCell' = true ∧ Instr.fill place vs.toArray cps = some vs'.toArray
  | [], [], c, c', vs, _, hc, h1, h => by
    simp [fillL] at h
    subst h
    exact ⟨vs, hc, h1, by simp [Instr.fill]⟩
  | [], _ :: _, _, _, _, hp, _, _, _ => hp.elim
  | _ :: _, [], _, _, _, hp, _, _, _ => hp.elim
  | (i, v) :: ps, (j, cv) :: cps, c, c', vs, hp, hc, h1, h => by
    obtain ⟨rfl, hv, hps⟩ := hp
    simp only [fillL] at h
    unfold Instr.fill
    split at h
    · cases h
    · rename_i off size hpl
      rw [hpl]
      simp only []
      split at h
      · rename_i l hl
        obtain ⟨g1, g2⟩ := cells_conc hv hl
        split at h
        · rename_i hb
          rw [Bool.and_eq_true] at hb
          have hsz : l.length = size := Nat.eq_of_beq_eq_true hb.1
          have hpos : 0 < size := by have := hb.2; rw [Nat.blt_eq] at this; exact this
          split at h
          · rename_i c1 hs
            rcases setL_eq hs with ⟨e1, e2⟩ | ⟨e1, _⟩
            · have hlen := concL_length g1
              have hlv := concL_length hc
              have hcs : cv.cells.size = size := by rw [← Array.length_toList, hlen, hsz]
              have hle : off + cv.cells.size ≤ vs.length := by rw [hcs, hlv, ← hsz]; exact e2
              have hcond : (cv.cells.size ≠ size || decide (off + cv.cells.size > vs.toArray.size)) = false := by
                simp [hcs]
                have : vs.toArray.size = vs.length := by simp
                omega
              have hfold : cv.cells.zipIdx.foldl (fun (cs : Array Value) (x : Value × Nat) => cs.setIfInBounds (off + x.2) x.1) vs.toArray = (vs.take off ++ cv.cells.toList ++ vs.drop (off + cv.cells.toList.length)).toArray := by
                have := foldl_set off cv.cells.toList 0 vs.toArray (by simp; exact hle)
                simp only [Nat.add_zero] at this
                rw [← this, ← Array.foldl_toList]
                simp
              have hcond' : ¬ ((cv.cells.size ≠ size || decide (off + cv.cells.size > vs.toArray.size)) = true) := by rw [hcond]; simp
              rw [if_neg hcond']
              have hc1 : AV.concL ρ c1 = some (vs.take off ++ cv.cells.toList ++ vs.drop (off + cv.cells.toList.length)) := by
                rw [e1, hlen]
                exact concL_append (concL_append (concL_take off hc) g1) (concL_drop _ hc)
              have hone : (vs.take off ++ cv.cells.toList ++ vs.drop (off + cv.cells.toList.length)).all Value.oneCell' = true := by
                rw [List.all_eq_true] at h1 g2 ⊢
                intro x hx
                rcases List.mem_append.1 hx with hx | hx
                · rcases List.mem_append.1 hx with hx | hx
                  · exact h1 x (List.mem_of_mem_take hx)
                  · exact g2 x hx
                · exact h1 x (List.mem_of_mem_drop hx)
              obtain ⟨vs', f1, f2, f3⟩ := fillL_sound hps hc1 hone h
              refine ⟨vs', f1, f2, ?_⟩
              rw [← f3, ← hfold]
            · subst e1
              simp at hsz
              omega
          · cases h
        · cases h
      · cases h

theorem sized_eq : ∀ {fs : List Field}, sized P fs = true → ∀ f ∈ fs, ∃ n, sizeT P f.type = some n
  | [], _, f, hf => by cases hf
  | g :: fs, h, f, hf => by
    simp only [sized, Bool.and_eq_true] at h
    rcases List.mem_cons.1 hf with rfl | hf
    · have := h.1
      split at this
      · rename_i n hn; exact ⟨n, hn⟩
      · cases this
    · exact sized_eq h.2 f hf

theorem mapM_places : ∀ {fs : List Field} (w : World), (∀ f ∈ fs, ∃ n, sizeT P f.type = some n) →
    (fs.mapM (fun f => do pure (f.offset, ← sizeOf f.type) : Field → Sem (Nat × Nat))).run P w = .ok (fs.map fun f => (f.offset, (sizeT P f.type).getD 0)) w
  | [], w, _ => by simp
  | f :: fs, w, h => by
    obtain ⟨n, hn⟩ := h f (by simp)
    have ih := mapM_places (fs := fs) w (fun g hg => h g (by simp [hg]))
    simp only [List.mapM_cons, Sem.run_bind, run_sizeT hn, Result.andThen_ok, Sem.run_pure, ih, List.map_cons, hn, Option.getD_some]

theorem buildC_sound {t : Nat} {ps : List (Nat × AV)} {cps : List (Nat × Value)} {v : AV} (hp : ConcP ρ ps cps) (h : (buildC P t).run ps = some v) :
    ∃ c, v.conc ρ = some c ∧ (Instr.build t cps.toArray).run P w = .ok c w := by
  unfold buildC at h
  split at h
  · cases h
  · rename_i z hz
    obtain ⟨cz, g1, g2⟩ := zeroT_sound (ρ := ρ) hz
    split at h
    · rename_i d hd
      split at h
      · rename_i fs hf
        have hu : P.underlying t = some (.struct fs) := by rw [hd, fieldsD_eq hf]
        split at h
        · rename_i hsz
          simp only [] at h
          split at h
          · rename_i zs hzs
            obtain ⟨g3, g4⟩ := cells_conc g1 hzs
            split at h
            · rename_i l hl
              cases h
              obtain ⟨vs', f1, f2, f3⟩ := fillL_sound hp g3 g4 hl
              refine ⟨.agg vs'.toArray, conc_agg.2 ⟨vs', f1, f2, rfl⟩, ?_⟩
              have hsz' := sized_eq hsz
              have hm := mapM_places (P := P) (fs := fs.toList) w hsz'
              have hplace : (fun i : Nat => (fs.map fun f => (f.offset, (sizeT P f.type).getD 0))[i]?) = placeF P fs := by
                funext i
                unfold placeF
                cases hi : fs[i]? with
                | none => simp [hi]
                | some f =>
                  obtain ⟨n, hn⟩ := hsz' f (by
                    have := Array.mem_of_getElem? hi
                    simpa using this)
                  simp [hi, hn]
              have hmA : (fs.mapM (fun f => do pure (f.offset, ← sizeOf f.type) : Field → Sem (Nat × Nat))).run P w = .ok (fs.map fun f => (f.offset, (sizeT P f.type).getD 0)) w := by
                rw [Array.mapM_eq_mapM_toList]
                rw [Sem.run_map, hm]
                simp only [Result.andThen_ok]
                congr 1
                apply Array.ext'
                simp
              have hcell : cz.cells = cz.cells.toList.toArray := by simp
              simp only [Instr.build, Sem.run_bind, g2, Result.andThen_ok, run_underlying hu, hmA, hplace]
              rw [hcell, f3]
              rfl
            · cases h
          · cases h
        · cases h
      · split at h
        · rename_i n e ha
          have hu : P.underlying t = some (.array n e) := by rw [hd, arrD_eq ha]
          split at h
          · rename_i size hsz
            simp only [] at h
            split at h
            · rename_i zs hzs
              obtain ⟨g3, g4⟩ := cells_conc g1 hzs
              split at h
              · rename_i l hl
                cases h
                obtain ⟨vs', f1, f2, f3⟩ := fillL_sound hp g3 g4 hl
                refine ⟨.agg vs'.toArray, conc_agg.2 ⟨vs', f1, f2, rfl⟩, ?_⟩
                have hcell : cz.cells = cz.cells.toList.toArray := by simp
                have hplace : placeE size = fun i => some (i * size, size) := rfl
                rw [hplace] at f3
                simp only [Instr.build, Sem.run_bind, g2, Result.andThen_ok, run_underlying hu, run_sizeT hsz]
                rw [hcell, f3]
                rfl
              · cases h
            · cases h
          · cases h
        · cases h
    · cases h

/-! ### Conversions -/
theorem convC_sound {src dst : Nat} {x v : AV} {cx : Value} (hx : x.conc ρ = some cx) (h : (convC P src dst).run x = some v) : ∃ c, v.conc ρ = some c ∧ (convert src dst cx).run P w = .ok c w := by
  unfold convC at h
  split at h
  · rename_i d hd
    split at hd
    · rename_i ds hs
      split at h
      · rename_i k hi
        have hu : P.underlying dst = some (.int k) := by rw [hd, intD_eq hi]
        simp only [] at h
        split at h
        · rename_i k' n ha
          rw [asInt_eq ha] at hx
          cases hx; cases h
          exact ⟨_, rfl, by simp [convert, run_underlying hs, run_underlying hu, Conv.intToInt, wrap_eq]⟩
        · cases h
      · split at h
        · rename_i hst
          have hu : P.underlying dst = some .string := by rw [hd, strD_eq hst]
          simp only [] at h
          split at h
          · rename_i l n ha
            rw [asStr_eq ha] at hx
            obtain ⟨e1, rfl⟩ := conc_str.1 hx
            cases h
            exact ⟨_, conc_str.2 ⟨e1, rfl⟩, by simp [convert, run_underlying hs, run_underlying hu, strV]⟩
          · cases h
        · cases h
    · cases hd
  · cases h

theorem bytesStr_conc {c : Chunk} {v : AV} {xs : List Value} (hc : concC ρ c = some xs) (h : bytesStr c = some v) : ∃ l n, v = .str l n ∧ n < pw l ∧ xs = (bytesL l n).map u8V := by
  cases c with
  | bytes l n =>
    cases h
    obtain ⟨h1, h2⟩ := concC_bytes.1 hc
    exact ⟨l, n, rfl, h1, h2⟩
  | cells l =>
    simp only [bytesStr] at h
    split at h
    · rename_i n hn
      cases h
      have := packF_conc hn (concC_cells.1 hc).1
      obtain ⟨h1, h2⟩ := concC_bytes.1 this
      exact ⟨_, _, rfl, h1, h2⟩
    · cases h

theorem toStr_sound (hH : HRel P ρ H w) {src dst : Nat} {x v : AV} {cx : Value} (hs : isToStr P src dst = true) (hx : x.conc ρ = some cx) (h : toStr H x = some v) :
    ∃ c, v.conc ρ = some c ∧ (convert src dst cx).run P w = .ok c w := by
  unfold isToStr at hs
  split at hs
  · rename_i e he
    split at hs
    · rename_i hu8
      split at hs
      · rename_i d hd
        have h1 := sliT_eq he
        have h2 := u8T_eq hu8
        have h3 : P.underlying dst = some .string := by rw [hd, strD_eq hs]
        have conv : ∀ a l c, (convert src dst (.slice a l c)).run P w = (Conv.bytesToString (.slice a l c)).run P w := fun a l c => run_convert_bytes_string w src dst e a l c h1 h2 h3
        unfold toStr at h
        split at h
        · rename_i b off len cap hsl
          rw [asSlice_eq hsl] at hx
          obtain ⟨cb, n, e1, rfl, e2, e3⟩ := conc_slice hx
          split at h
          · rename_i c hc
            obtain ⟨cb', xs, g1, g2, g3, g4⟩ := readPart_sound hH hc
            rw [e1] at g1; cases g1
            obtain ⟨l, m, rfl, f1, rfl⟩ := bytesStr_conc g2 h
            refine ⟨strV l m, conc_str.2 ⟨f1, rfl⟩, ?_⟩
            have hl := run_load_part (P := P) (w := w) g4
            rw [g3] at hl
            have hns : (bytesL l m).map u8V = ((bytesL l m).map fun b => (b.toNat : Int)).map (Value.int .u8) := by simp [u8V, Function.comp_def]
            rw [hns] at hl
            rw [conv, run_bytesToString w _ _ _ _ hl, foldl_push_bytes]
            congr 2
            apply ByteArray.ext
            apply Array.ext'
            simp [Function.comp_def]
          · cases h
        · split at h
          · rename_i hn
            cases h
            rw [Bool.or_eq_true] at hn
            have : ∃ a, cx = .slice a 0 (match cx with | .slice _ _ n => n | _ => 0) := by
              rcases hn with hn | hn
              · rw [isNils_eq hn] at hx; cases hx; exact ⟨_, rfl⟩
              · obtain ⟨b, o, l, z, k, rfl⟩ := isEnd_eq hn
                obtain ⟨cb, _, _, rfl⟩ := conc_send hx; exact ⟨_, rfl⟩
            obtain ⟨a, ha⟩ := this
            rw [ha]
            refine ⟨strV 0 0, conc_str.2 ⟨pw_pos 0, rfl⟩, ?_⟩
            rw [conv]
            cases a with
            | none => simp [Conv.bytesToString, strV, bytesL]; rfl
            | some a =>
              rw [run_bytesToString w a 0 _ [] (by simp [loadCells, loadCellsFrom])]
              simp [strV, bytesL]; rfl
          · cases h
      · cases hs
    · cases hs
  · cases hs

end Go.Proofs.YtpmildboffolkaaGreat.Abs

namespace Go.Proofs.YtpmildboffolkaaGreat.Abs
variable {P : Program} {ρ : Env} {H : AHeap} {w : World}

/-! ## What an operation gives that looks at most -/
theorem run_v {s : Sem Value} {c : Value} {w' : World} (h : s.run P w = .ok c w') : (do pure (Next.value (← s)) : Sem Next).run P w = .ok (.value c) w' := by
  simp [h, Result.andThen]

/-- what a region's operands stand for -/
def OpdOk (ρ : Env) (ops : List Oper) (i : Nat) (T : Tr AV) (vs : List AV) (ev : Operand → Value) (xs : List Operand) : Prop :=
  ∀ x ∈ xs, ∀ v, (opdC ops i x).run T vs = some v → v.conc ρ = some (ev x)

theorem OpdOk.sub {ops : List Oper} {i : Nat} {T : Tr AV} {vs : List AV} {ev : Operand → Value} {xs ys : List Operand} (h : OpdOk ρ ops i T vs ev xs) (hs : ∀ x ∈ ys, x ∈ xs) : OpdOk ρ ops i T vs ev ys :=
  fun x hx => h x (hs x hx)

section
variable {ops : List Oper} {i : Nat} {T : Tr AV} {vs : List AV} {ev : Operand → Value}

theorem opdsC_sound : ∀ {xs : List Operand} {l : List AV}, OpdOk ρ ops i T vs ev xs → (opdsC ops i xs).run T vs = some l → AV.concL ρ l = some (xs.map ev)
  | [], l, _, h => by simp only [opdsC] at h; cases h; rfl
  | x :: xs, l, hx, h => by
    simp only [opdsC] at h
    split at h
    · rename_i v hv
      split at h
      · rename_i l' hl
        cases h
        simp [AV.concL, hx x (by simp) v hv, opdsC_sound (hx.sub (by simp +contextual)) hl]
      · cases h
    · cases h

theorem opd?C_sound {x : Option Operand} {r : Option AV} (hx : OpdOk ρ ops i T vs ev x.toList) (h : (opd?C ops i x).run T vs = some r) : ConcO ρ r (x.map ev) := by
  unfold opd?C at h
  split at h
  · cases h; trivial
  · rename_i x
    simp only [] at h
    split at h
    · rename_i v hv
      cases h
      exact hx x (by simp) v hv
    · cases h

theorem partsC_sound : ∀ {xs : List (Nat × Operand)} {l : List (Nat × AV)}, OpdOk ρ ops i T vs ev (xs.map (·.2)) → (partsC ops i xs).run T vs = some l → ConcP ρ l (xs.map fun p => (p.1, ev p.2))
  | [], l, _, h => by simp only [partsC] at h; cases h; trivial
  | (j, x) :: xs, l, hx, h => by
    simp only [partsC] at h
    split at h
    · rename_i v hv
      split at h
      · rename_i l' hl
        cases h
        exact ⟨rfl, hx x (by simp) v hv, partsC_sound (hx.sub (by simp +contextual)) hl⟩
      · cases h
    · cases h

theorem un_eq {a : Ev (Option AV)} {f : AV → Option AV} {v : AV} (h : (un a f).run T vs H = some v) : ∃ x, a.run T vs = some x ∧ f x = some v := by
  simp only [un] at h
  split at h
  · exact ⟨_, by assumption, h⟩
  · cases h
theorem unH_eq {a : Ev (Option AV)} {f : AHeap → AV → Option AV} {v : AV} (h : (unH a f).run T vs H = some v) : ∃ x, a.run T vs = some x ∧ f H x = some v := by
  simp only [unH] at h
  split at h
  · exact ⟨_, by assumption, h⟩
  · cases h
theorem bi_eq {a b : Ev (Option AV)} {f : AV → AV → Option AV} {v : AV} (h : (bi a b f).run T vs H = some v) : ∃ x y, a.run T vs = some x ∧ b.run T vs = some y ∧ f x y = some v := by
  simp only [bi] at h
  split at h
  · split at h
    · exact ⟨_, _, by assumption, by assumption, h⟩
    · cases h
  · cases h
theorem biH_eq {a b : Ev (Option AV)} {f : AHeap → AV → AV → Option AV} {v : AV} (h : (biH a b f).run T vs H = some v) : ∃ x y, a.run T vs = some x ∧ b.run T vs = some y ∧ f H x y = some v := by
  simp only [biH] at h
  split at h
  · split at h
    · exact ⟨_, _, by assumption, by assumption, h⟩
    · cases h
  · cases h

theorem notNil_sound {x v : AV} {cx : Value} (hx : x.conc ρ = some cx) (h : notNil x = some v) : v = x ∧ cx ≠ .pointer none ∧ cx ≠ .nilIface ∧ cx ≠ .nilFunc ∧ ∀ m f c, cx ≠ .func (.method m) f c := by

  cases x <;> simp only [notNil] at h <;> try cases h
  all_goals refine ⟨rfl, ?_⟩
  all_goals simp only [AV.conc] at hx
  all_goals repeat' split at hx
  all_goals first | (cases hx; simp) | cases hx

theorem isConst_eq {x : Operand} (h : isConst x = true) : ∃ v, x = .const v := by
  cases x <;> simp_all [isConst]

theorem run_call_builtin (P : Program) (w : World) (ev : Operand → Value) {o : Oper} {c : Call} {b : Builtin} (ho : o.op = .call c) (hb : c.callee = .builtin b) :
    ∃ cs, (execOp ev o).run P w = (builtin b c.argTypes o.type cs (c.args.map ev)).run P w :=
  ⟨_, by simp only [execOp, ho, resolve, hb, Sem.run_bind, Sem.run_pure, Result.andThen, invoke]; rfl⟩

theorem arr_map {α β : Type} (f : α → β) (a : Array α) : (a.toList.map f).toArray = a.map f := by
  cases a; simp

theorem readC_sound {o : Oper} {v : AV} (hH : HRel P ρ H w) (hx : OpdOk ρ ops i T vs ev o.op.operands.toList) (h : (readC P ops i o).run T vs H = some v) :
    ∃ c, v.conc ρ = some c ∧ (execOp ev o).run P w = .ok (.value c) w := by
  unfold readC at h
  split at h <;> rename_i hop
  · obtain ⟨a, h1, h2⟩ := un_eq h
    cases h2
    exact ⟨_, hx _ (by simp [hop, Op.operands]) _ h1, by simp [execOp, hop]⟩
  · obtain ⟨a, h1, h2⟩ := un_eq h
    cases h2
    exact ⟨_, hx _ (by simp [hop, Op.operands]) _ h1, by simp [execOp, hop]⟩
  · rename_i c a b
    simp only [] at h
    split at h
    · rename_i x hc
      have h0 := hx c (by simp [hop, Op.operands]) _ hc
      split at h
      · rename_i hb
        rw [asBool_eq hb] at h0
        simp only [AV.conc, Option.some.injEq] at h0
        exact ⟨_, hx a (by simp [hop, Op.operands]) _ h, by simp [execOp, hop, ← h0, asBool, Sem.run_bind, Result.andThen]⟩
      · rename_i hb
        rw [asBool_eq hb] at h0
        simp only [AV.conc, Option.some.injEq] at h0
        exact ⟨_, hx b (by simp [hop, Op.operands]) _ h, by simp [execOp, hop, ← h0, asBool, Sem.run_bind, Result.andThen]⟩
      · cases h
    · cases h
  · rename_i t ps
    simp only [] at h
    split at h
    · rename_i l hl
      have hp := partsC_sound (hx.sub (by simp [hop, Op.operands])) hl
      obtain ⟨c, h1, h2⟩ := buildC_sound (w := w) hp h
      refine ⟨c, h1, ?_⟩
      simp only [execOp, hop]
      refine run_v ?_
      rw [← h2, arr_map]
    · cases h
  · obtain ⟨a, h1, h2⟩ := unH_eq h
    obtain ⟨c, h3, h4⟩ := loadC_sound hH (hx _ (by simp [hop, Op.operands]) _ h1) h2
    exact ⟨c, h3, by simp only [execOp, hop]; exact run_v h4⟩
  · obtain ⟨a, h1, h2⟩ := un_eq h
    have h0 := hx _ (by simp [hop, Op.operands]) _ h1
    rename_i x
    obtain ⟨rfl, hz⟩ := notNil_sound h0 h2
    refine ⟨_, h0, ?_⟩
    simp only [execOp, hop]
    have hz1 := hz
    revert hz1
    generalize ev x = y
    intro hz1
    obtain ⟨z1, z2, z3, z4⟩ := hz1
    split <;> first | exact absurd rfl z1 | exact absurd rfl z2 | exact absurd rfl z3 | exact absurd rfl (z4 _ _ _) | simp
  · rename_i op t x y _
    obtain ⟨a, b, h1, h2, h3⟩ := biH_eq h
    have hc : (or (isConst x) (isConst y)) = true → (∃ v, x = Operand.const v) ∨ ∃ v, y = Operand.const v := by
      intro hh
      rcases Bool.or_eq_true_iff.1 hh with hh | hh
      · exact .inl (isConst_eq hh)
      · exact .inr (isConst_eq hh)
    obtain ⟨c, h4, h5⟩ := binOpC_sound hH hc (hx _ (by simp [hop, Op.operands]) _ h1) (hx _ (by simp [hop, Op.operands]) _ h2) h3
    exact ⟨c, h4, by simp only [execOp, hop]; exact run_v h5⟩
  · obtain ⟨a, h1, h2⟩ := un_eq h
    obtain ⟨c, h3, h4⟩ := unOpC_sound (P := P) (w := w) (hx _ (by simp [hop, Op.operands]) _ h1) h2
    exact ⟨c, h3, by simp only [execOp, hop]; exact run_v h4⟩
  · split at h
    · rename_i hs
      obtain ⟨a, h1, h2⟩ := unH_eq h
      obtain ⟨c, h3, h4⟩ := toStr_sound hH hs (hx _ (by simp [hop, Op.operands]) _ h1) h2
      exact ⟨c, h3, by simp only [execOp, hop]; exact run_v h4⟩
    · obtain ⟨a, h1, h2⟩ := un_eq h
      obtain ⟨c, h3, h4⟩ := convC_sound (w := w) (hx _ (by simp [hop, Op.operands]) _ h1) h2
      exact ⟨c, h3, by simp only [execOp, hop]; exact run_v h4⟩
  · rename_i t x
    split at h
    · simp [noEv] at h
    · rename_i d hd hu
      obtain ⟨a, h1, h2⟩ := un_eq h
      cases h2
      have h0 := hx _ (by simp [hop, Op.operands]) _ h1
      refine ⟨.iface t (ev x), by simp [AV.conc, h0], ?_⟩
      simp only [execOp, hop]
      refine run_v ?_
      have hni : ∀ ms, d ≠ .interface ms := fun ms e => hd ms e
      simp only [Instr.makeInterface, Sem.run_bind, run_underlying hu, Result.andThen]
      cases d <;> first | exact absurd rfl (hni _) | rfl
    · simp [noEv] at h
  · rename_i g f c
    simp only [] at h
    split at h
    · rename_i a ha
      split at h
      · rename_i b hb
        cases h
        have h1 := opdsC_sound (hx.sub (by simp +contextual [hop, Op.operands])) ha
        have h2 := opdsC_sound (hx.sub (by simp +contextual [hop, Op.operands])) hb
        refine ⟨.func (.func g) (f.map ev) (c.map ev), by simp [AV.conc, h1, h2, arr_map], by simp [execOp, hop, Instr.makeFunc]⟩
      · cases h
    · cases h
  · rename_i t x l hh m
    simp only [] at h
    split at h
    · rename_i a ha
      split at h
      · rename_i l' h' m' hl hhh hm
        obtain ⟨c, h1, h2⟩ := sliceC_sound (w := w) (hx _ (by simp [hop, Op.operands]) _ ha) (opd?C_sound (hx.sub (by simp +contextual [hop, Op.operands])) hl)
          (opd?C_sound (hx.sub (by simp +contextual [hop, Op.operands])) hhh) (opd?C_sound (hx.sub (by simp +contextual [hop, Op.operands])) hm) h
        exact ⟨c, h1, by simp only [execOp, hop]; exact run_v h2⟩
      · cases h
    · cases h
  · obtain ⟨a, h1, h2⟩ := un_eq h
    obtain ⟨c, h3, h4⟩ := fieldAddrC_sound (w := w) (hx _ (by simp [hop, Op.operands]) _ h1) h2
    exact ⟨c, h3, by simp only [execOp, hop]; exact run_v h4⟩
  · obtain ⟨a, h1, h2⟩ := un_eq h
    obtain ⟨c, h3, h4⟩ := fieldC_sound (w := w) (hx _ (by simp [hop, Op.operands]) _ h1) h2
    exact ⟨c, h3, by simp only [execOp, hop]; exact run_v h4⟩
  · obtain ⟨a, b, h1, h2, h3⟩ := bi_eq h
    obtain ⟨c, h4, h5⟩ := indexAddrC_sound (w := w) (hx _ (by simp [hop, Op.operands]) _ h1) (hx _ (by simp [hop, Op.operands]) _ h2) h3
    exact ⟨c, h4, by simp only [execOp, hop]; exact run_v h5⟩
  · obtain ⟨a, b, h1, h2, h3⟩ := bi_eq h
    obtain ⟨c, h4, h5⟩ := indexC_sound (w := w) (hx _ (by simp [hop, Op.operands]) _ h1) (hx _ (by simp [hop, Op.operands]) _ h2) h3
    exact ⟨c, h4, by simp only [execOp, hop]; exact run_v h5⟩
  · obtain ⟨a, b, h1, h2, h3⟩ := biH_eq h
    obtain ⟨c, h4, h5⟩ := lookupC_sound hH (hx _ (by simp [hop, Op.operands]) _ h1) (hx _ (by simp [hop, Op.operands]) _ h2) h3
    exact ⟨c, h4, by simp only [execOp, hop]; exact run_v h5⟩
  · obtain ⟨a, h1, h2⟩ := un_eq h
    obtain ⟨c, h3, h4⟩ := extractC_sound (P := P) (w := w) (hx _ (by simp [hop, Op.operands]) _ h1) h2
    exact ⟨c, h3, by simp only [execOp, hop]; exact run_v h4⟩
  · obtain ⟨a, h1, h2⟩ := unH_eq h
    obtain ⟨c, h3, h4⟩ := entryV_sound hH (hx _ (by simp [hop, Op.operands]) _ h1) h2
    exact ⟨c, h3, by simp only [execOp, hop]; exact run_v h4⟩
  · obtain ⟨a, h1, h2⟩ := un_eq h
    obtain ⟨c, h3, h4⟩ := assertC_sound (w := w) (hx _ (by simp [hop, Op.operands]) _ h1) h2
    exact ⟨c, h3, by simp only [execOp, hop]; exact run_v h4⟩
  · rename_i c
    split at h <;> rename_i hcal
    · split at h
      · rename_i x t hxs hts
        obtain ⟨a, h1, h2⟩ := unH_eq h
        have hxs' : c.args = #[x] := by rw [← hxs]
        have hts' : c.argTypes = #[t] := by rw [← hts]
        obtain ⟨r, h3, h4⟩ := lenC_sound (ty := o.type) hH (hx x (by simp [hop, Op.operands, Call.operands, hcal, hxs']) _ h1) h2
        refine ⟨r, h3, ?_⟩
        obtain ⟨cs, hcs⟩ := run_call_builtin P w ev hop hcal
        rw [hcs, hxs', hts', List.map_toArray]
        exact run_v h4
      · simp [noEv] at h
    · split at h
      · rename_i x t hxs hts
        obtain ⟨a, h1, h2⟩ := un_eq h
        have hxs' : c.args = #[x] := by rw [← hxs]
        have hts' : c.argTypes = #[t] := by rw [← hts]
        obtain ⟨r, h3, h4⟩ := capC_sound (P := P) (w := w) (ty := o.type) (hx x (by simp [hop, Op.operands, Call.operands, hcal, hxs']) _ h1) h2
        refine ⟨r, h3, ?_⟩
        obtain ⟨cs, hcs⟩ := run_call_builtin P w ev hop hcal
        rw [hcs, hxs', hts', List.map_toArray]
        exact run_v h4
      · simp [noEv] at h
    · split at h
      · rename_i x y hxs
        obtain ⟨a, b, h1, h2, h5⟩ := bi_eq h
        have hxs' : c.args = #[x, y] := by rw [← hxs]
        obtain ⟨r, h3, h4⟩ := minV_sound (P := P) (w := w) (ts := c.argTypes) (ty := o.type) (hx x (by simp [hop, Op.operands, Call.operands, hcal, hxs']) _ h1) (hx y (by simp [hop, Op.operands, Call.operands, hcal, hxs']) _ h2) h5
        refine ⟨r, h3, ?_⟩
        obtain ⟨cs, hcs⟩ := run_call_builtin P w ev hop hcal
        rw [hcs, hxs', List.map_toArray]
        exact run_v h4
      · simp [noEv] at h
    · split at h
      · rename_i x y hxs
        obtain ⟨a, b, h1, h2, h5⟩ := bi_eq h
        have hxs' : c.args = #[x, y] := by rw [← hxs]
        obtain ⟨r, h3, h4⟩ := maxV_sound (P := P) (w := w) (ts := c.argTypes) (ty := o.type) (hx x (by simp [hop, Op.operands, Call.operands, hcal, hxs']) _ h1) (hx y (by simp [hop, Op.operands, Call.operands, hcal, hxs']) _ h2) h5
        refine ⟨r, h3, ?_⟩
        obtain ⟨cs, hcs⟩ := run_call_builtin P w ev hop hcal
        rw [hcs, hxs', List.map_toArray]
        exact run_v h4
      · simp [noEv] at h
    · simp [noEv] at h
  · simp [noEv] at h
end
end Go.Proofs.YtpmildboffolkaaGreat.Abs

namespace Go.Proofs.YtpmildboffolkaaGreat.Abs
variable {P : Program} {ρ : Env} {H : AHeap} {w : World}

/-! ## New blocks -/
theorem rep_get {α : Type} (l : List α) : ∀ (n i : Nat), ((List.replicate n l).flatten)[i]? = if i < n * l.length then l[i % l.length]? else none
  | 0, i => by simp
  | n + 1, i => by
    simp only [List.replicate_succ, List.flatten_cons, List.getElem?_append]
    by_cases h : i < l.length
    · have : i < (n + 1) * l.length := by rw [Nat.add_mul]; omega
      simp [h, this, Nat.mod_eq_of_lt h]
    · simp only [h, if_false]
      rw [rep_get l n (i - l.length)]
      have e : (i - l.length) % l.length = i % l.length := by rw [← Nat.mod_eq_sub_mod (by omega)]
      rw [e]
      have : (i - l.length < n * l.length) ↔ i < (n + 1) * l.length := by rw [Nat.add_mul]; omega
      simp [this]

theorem made_list (z : Array Value) (n : Nat) : (madeCells z (n * z.size)).toList = (List.replicate n z.toList).flatten := by
  apply List.ext_getElem?
  intro i
  rw [rep_get]
  simp only [madeCells, Array.toList_map, Array.toList_range, List.getElem?_map, List.getElem?_range', Array.length_toList]
  by_cases h : i < n * z.size
  · have hz : 0 < z.size := by
      rcases Nat.eq_zero_or_pos z.size with h0 | h0
      · rw [h0] at h; omega
      · exact h0
    have hm := Nat.mod_lt i hz
    simp [h, hm]
  · simp [h]

theorem zeroCells_list (z : Array Value) (n : Nat) : (Builtin.zeroCells z n).toList = (List.replicate n z.toList).flatten := made_list z n

theorem all_flat {l : List Value} (h : l.all Value.oneCell' = true) (n : Nat) : (List.replicate n l).flatten.all Value.oneCell' = true := by
  rw [List.all_eq_true] at h ⊢
  intro x hx
  simp only [List.mem_flatten, List.mem_replicate] at hx
  obtain ⟨m, ⟨_, rfl⟩, hm⟩ := hx
  exact h x hm

theorem concL_flat {l : List AV} {vs : List Value} (h : AV.concL ρ l = some vs) : ∀ n, AV.concL ρ (List.replicate n l).flatten = some (List.replicate n vs).flatten
  | 0 => rfl
  | n + 1 => by simp only [List.replicate_succ, List.flatten_cons]; exact concL_append h (concL_flat h n)

theorem isZ_eq {x : AV} (h : isZ x = true) : x = .int .u8 (.ofNat 0) := by
  unfold isZ at h
  split at h
  · rfl
  · cases h
theorem allZero_eq : ∀ {l : List AV}, allZero l = true → l = List.replicate l.length (.int .u8 (.ofNat 0))
  | [], _ => rfl
  | x :: l, h => by
    simp only [allZero, Bool.and_eq_true] at h
    simp only [List.length_cons, List.replicate_succ]
    rw [isZ_eq h.1, ← allZero_eq h.2]

theorem bytesL_zero (n : Nat) : bytesL n 0 = List.replicate n 0 := by
  apply List.ext_getElem?
  intro i
  rw [bytesL_get, List.getElem?_replicate]
  split
  · simp [byteAt_eq]
  · rfl

theorem rep_rep {α : Type} (x : α) (k : Nat) : ∀ n, (List.replicate n (List.replicate k x)).flatten = List.replicate (n * k) x
  | 0 => by simp
  | n + 1 => by
    simp only [List.replicate_succ, List.flatten_cons, rep_rep x k n, List.replicate_append_replicate]
    congr 1
    rw [Nat.add_mul]; omega

/-- zero elements -/
theorem zeroChunk_sound {e n : Nat} {z : Chunk} (h : zeroChunk P e n = some z) : ∃ zv, (∀ w, (zeroValue e).run P w = .ok zv w) ∧ sizeT P e = some zv.cells.size ∧
    concC ρ z = some (List.replicate n zv.cells.toList).flatten ∧ z.isBytes = byteT P e ∧ zv.cells.toList.all Value.oneCell' = true := by
  unfold zeroChunk at h
  split at h
  · cases h
  · rename_i a ha
    split at h
    · rename_i l hl
      split at h
      · rename_i s hs
        split at h
        · rename_i hb
          have hsz : l.length = s := Nat.eq_of_beq_eq_true hb
          obtain ⟨zv, h1, h2⟩ := zeroT_sound (ρ := ρ) ha
          obtain ⟨g1, g2⟩ := cells_conc h1 hl
          have hlen := concL_length g1
          have hsize : zv.cells.size = s := by rw [← hsz, ← hlen]; simp
          refine ⟨zv, h2, by rw [hs, hsize], ?_⟩
          split at h
          · rename_i hby
            split at h
            · rename_i hz
              cases h
              refine ⟨?_, by rw [hby]; rfl, g2⟩
              have hl' := allZero_eq hz
              have hv : zv.cells.toList = List.replicate l.length (u8V 0) := by
                rw [hl'] at g1
                have := concL_bytes ρ (List.replicate l.length (0 : UInt8))
                simp only [List.map_replicate] at this
                have e0 : (AV.int .u8 (.ofNat (0 : UInt8).toNat)) = AV.int .u8 (.ofNat 0) := rfl
                rw [e0] at this
                rw [this] at g1
                exact (Option.some.inj g1).symm
              rw [concC_bytes]
              refine ⟨pw_pos _, ?_⟩
              rw [hv, rep_rep, bytesL_zero]
              simp
            · cases h
          · rename_i hby
            cases h
            refine ⟨?_, by rw [hby]; rfl, g2⟩
            rw [concC_cells]
            exact ⟨concL_flat g1 n, all_flat g2 n⟩
        · cases h
      · cases h
    · cases h

/-- a new row, as it is -/
theorem row_new {b : Nat} {r : Chunk} {e : Nat} {vs : List Value} (hc : concC ρ r = some vs) (hk : r.isBytes = byteT P e) : ORel P ρ b (.row r e false) (.cells vs.toArray e) :=
  ⟨vs.toArray, (0, 0), rfl, ⟨⟨vs, hc, fun _ => by simp, fun h => by cases h⟩, fun h => (by cases h), hk, fun _ => rfl, fun off _ h => by simp at h, Nat.le_refl _⟩⟩

/-- what making a block comes to -/
def NewOk (P : Program) (ρ : Env) (w : World) (s : Sem Value) (name : Nat) (v : AV) (obj : AObj) : Prop :=
  ∃ c w' robj cap, s.run P w = .ok c w' ∧ w'.heap = w.heap.push robj ∧ Same w w' ∧ v.conc (ρ.ext name w.heap.size cap) = some c ∧ ORel P (ρ.ext name w.heap.size cap) name obj robj

theorem rowC_sound {t : Nat} {x : AV} {obj : AObj} {cx : Value} (hx : x.conc ρ = some cx) (h : (rowC P t).run x = some obj) : ∃ r vs, obj = .row r t false ∧ concC ρ r = some vs ∧ r.isBytes = byteT P t ∧ vs.toArray = cx.cells := by
  unfold rowC at h
  split at h
  · rename_i hb
    simp only [] at h
    split at h
    · rename_i l hl
      obtain ⟨g1, g2⟩ := cells_conc hx hl
      split at h
      · rename_i r hr
        cases h
        obtain ⟨h1, h2⟩ := Chunk.asRow_conc (ρ := ρ) (concC_cells.2 ⟨g1, g2⟩) hr
        exact ⟨r, _, rfl, h1, by rw [hb, h2], by simp⟩
      · cases h
    · cases h
  · rename_i hb
    simp only [] at h
    split at h
    · rename_i l hl
      obtain ⟨g1, g2⟩ := cells_conc hx hl
      cases h
      exact ⟨_, _, rfl, concC_cells.2 ⟨g1, g2⟩, by rw [hb]; rfl, by simp⟩
    · cases h

theorem newVar_sound {t : Nat} {x : AV} {name : Nat} {v : AV} {obj : AObj} {cx : Value} (hn : ρ.blk name = none) (hx : x.conc ρ = some cx) (h : rowAt name ((rowC P t).run x) = some (v, obj)) :
    NewOk P ρ w (do pure (Value.pointer (some (← newVar t cx)))) name v obj := by
  cases hr : (rowC P t).run x with
  | none => simp [rowAt, hr] at h
  | some o =>
    simp only [rowAt, hr, Option.some.injEq, Prod.mk.injEq] at h
    obtain ⟨rfl, rfl⟩ := h
    obtain ⟨r, vs, rfl, h1, h2, h3⟩ := rowC_sound hx hr
    refine ⟨.pointer (some ⟨w.heap.size, 0, none⟩), w.alloc (.cells cx.cells t), .cells cx.cells t, 0, ?_, rfl, ⟨rfl, rfl, rfl⟩, by simp [AV.conc], ?_⟩
    · simp [newVar, newRow, Result.andThen]
    · rw [← h3]
      exact row_new (concC_mono (Env.le_ext ρ name _ _ hn) h1) h2

theorem run_alloc_eq (t : Nat) (z : Value) (hz : ∀ w, (zeroValue t).run P w = .ok z w) : (Instr.alloc t true (.tuple #[])).run P w = (do pure (Value.pointer (some (← newVar t z))) : Sem Value).run P w := by
  simp [Instr.alloc, Sem.run_bind, hz, Result.andThen]

theorem makeSliceC_sound {t name : Nat} {a b v : AV} {ca cb : Value} {obj : AObj} (hn : ρ.blk name = none) (ha : a.conc ρ = some ca) (hb : b.conc ρ = some cb) (h : (makeSliceC P t).run name a b = some (v, obj)) :
    NewOk P ρ w (Instr.makeSlice t ca cb) name v obj := by
  unfold makeSliceC at h
  split at h
  · rename_i e he
    split at h
    · rename_i by_ hby
      simp only [] at h
      split at h
      · rename_i l c hl hc
        split at h
        · rename_i hle
          split at h
          · rename_i z hz
            cases h
            obtain ⟨kl, rfl⟩ := asNat_eq hl
            obtain ⟨kc, rfl⟩ := asNat_eq hc
            simp only [AV.conc, Option.some.injEq] at ha hb
            subst ha hb
            simp only [Bool.and_eq_true] at hle
            have l1 := Nat.le_of_ble_eq_true hle.1
            have l2 := Nat.le_of_ble_eq_true hle.2.1
            have l3 := Nat.le_of_ble_eq_true hle.2.2
            simp only [capBound] at l2 l3
            have l2' : by_ * c ≤ 17592186044416 := l2
            obtain ⟨zv, z1, z2, z3, z4, z5⟩ := zeroChunk_sound (ρ := ρ.ext name w.heap.size 0) hz
            unfold bytesT at hby
            split at hby
            · rename_i i hi
              cases hby
              have hzi : i.zero = some zv := by
                have := z1 w
                simp only [zeroValue, typeInfo, Sem.run_bind, run_program, Result.andThen, hi, Sem.run_pure] at this
                cases hq : i.zero with
                | none => simp [hq] at this
                | some y => simpa [hq] using this
              have hsz : i.size = zv.cells.size := by
                have := z2
                simp only [sizeT, hi, Option.some.injEq] at this
                exact this
              have hr := run_make (P := P) w t e i zv (sliT_eq he) hi hzi kl kc (Int.ofNat l) (Int.ofNat c) (by simp) (by simpa using l1)
                (by
                  have : ((i.bytes * c : Nat) : Int) ≤ 281474976710656 := by omega
                  simpa [Int.natCast_mul] using this) (by simp; omega)
              refine ⟨_, _, _, 0, hr, rfl, ⟨rfl, rfl, rfl⟩, ?_, ?_⟩
              · simp [AV.conc, l1]
              · have e1 : (Int.ofNat c).toNat = c := rfl
                rw [e1, hsz]
                have e2 : madeCells zv.cells (c * zv.cells.size) = ((List.replicate c zv.cells.toList).flatten).toArray := by
                  rw [← made_list]
                rw [e2]
                exact row_new z3 z4
            · cases hby
          · cases h
        · cases h
      · cases h
    · cases h
  · cases h

theorem buildSliceC_sound {t len name : Nat} {ps : List (Nat × AV)} {cps : List (Nat × Value)} {obj : AObj} (hn : ρ.blk name = none) (hp : ConcP ρ ps cps) (h : (buildSliceC P t len).run ps = some obj) :
    NewOk P ρ w (Instr.buildSlice t len cps.toArray) name (.slice name 0 len (.exact len)) obj := by
  unfold buildSliceC at h
  split at h
  · rename_i e he
    split at h
    · rename_i n hn'
      split at h
      · rename_i hle
        have hle' : len * n ≤ 1000000 := Nat.le_of_ble_eq_true hle
        split at h
        · rename_i c hc
          simp only [] at h
          split at h
          · rename_i l hl
            split at h
            · rename_i r hr
              cases h
              -- the cells ahead of the filling
              have key : ∃ zs : List Value, concC ρ c = some zs ∧ ((len * n = 0 ∧ zs = []) ∨ (len * n ≠ 0 ∧ ∃ zv : Value, (∀ w, (zeroValue e).run P w = .ok zv w) ∧ (Array.range (len * n)).map (fun x => zv.cells[x % zv.cells.size]!) = zs.toArray)) := by
                split at hc
                · rename_i h0
                  have h0' : len * n = 0 := h0
                  cases hc
                  exact ⟨[], by simp [concC, AV.concL], .inl ⟨h0', rfl⟩⟩
                · rename_i m h0
                  have h0' : len * n ≠ 0 := by
                    intro e; have : Nat.mul len n = len * n := rfl; rw [this, e] at h0; cases h0
                  obtain ⟨zv, z1, z2, z3, z4, z5⟩ := zeroChunk_sound (ρ := ρ) hc
                  refine ⟨_, z3, .inr ⟨h0', zv, z1, ?_⟩⟩
                  have hsz : n = zv.cells.size := by rw [hn'] at z2; exact Option.some.inj z2
                  rw [hsz]
                  show madeCells zv.cells (len * zv.cells.size) = _
                  rw [← made_list]
              obtain ⟨zs, k1, k2⟩ := key
              have hcl := Chunk.list_conc k1
              have hall : zs.all Value.oneCell' = true := List.all_eq_true.2 (concC_one k1)
              obtain ⟨vs', f1, f2, f3⟩ := fillL_sound hp hcl hall hl
              obtain ⟨r1, r2⟩ := Chunk.asRow_conc (ρ := ρ) (concC_cells.2 ⟨f1, f2⟩) hr
              refine ⟨.slice (some ⟨w.heap.size, 0, none⟩) len len, w.alloc (.cells vs'.toArray e), .cells vs'.toArray e, 0, ?_, rfl, ⟨rfl, rfl, rfl⟩, by simp [AV.conc], ?_⟩
              · have hbig : ¬ (len * n > 2 ^ 24) := by omega
                simp only [Instr.buildSlice, Sem.run_bind, run_underlying (sliT_eq he), Result.andThen, run_sizeT hn', hbig, if_false]
                have fe : (fun i => some (i * n, n)) = placeE n := rfl
                rcases k2 with ⟨h0, rfl⟩ | ⟨h0, zv, z1, k3⟩
                · have e0 : (Array.range 0).map (fun x => (#[] : Array Value)[x % (#[] : Array Value).size]!) = ([] : List Value).toArray := by simp [Array.range_zero']
                  simp only [h0, if_true, Sem.run_bind, Sem.run_pure, Result.andThen]
                  rw [e0, fe, f3]
                  simp [newRow, Result.andThen]
                · simp only [h0, if_false, Sem.run_bind, z1, Sem.run_pure, Result.andThen]
                  rw [k3, fe, f3]
                  simp [newRow, Result.andThen]
              · exact row_new (concC_mono (Env.le_ext ρ name _ _ hn) r1) r2
            · cases h
          · cases h
        · cases h
      · cases h
    · cases h
  · cases h
end Go.Proofs.YtpmildboffolkaaGreat.Abs

namespace Go.Proofs.YtpmildboffolkaaGreat.Abs
variable {P : Program} {ρ : Env} {H : AHeap} {w : World}

theorem modify_push {α : Type} (a : Array α) (x : α) (f : α → α) : (a.push x).modify a.size f = a.push (f x) := by
  apply Array.ext_getElem?
  intro i
  rw [Array.getElem?_modify]
  rw [Array.getElem?_push, Array.getElem?_push]
  by_cases h : i = a.size
  · subst h; simp
  · have : a.size ≠ i := fun e => h e.symm
    simp [this, h]

theorem toBytes_eq {src dst e : Nat} (h : toBytes P src dst = some e) : P.underlying src = some .string ∧ P.underlying dst = some (.slice e) ∧ u8T P e = true ∧ sizeT P e = some 1 := by
  unfold toBytes at h
  split at h
  · rename_i d hd
    split at h
    · rename_i hs
      split at h
      · rename_i e' he
        split at h
        · rename_i hu
          split at h
          · rename_i hz
            cases h
            exact ⟨by rw [hd, strD_eq hs], sliT_eq he, hu, hz⟩
          · cases h
        · cases h
      · cases h
    · cases h
  · cases h

theorem u8_byteT {e : Nat} (h : u8T P e = true) : byteT P e = true := by simp [byteT, h]

theorem u8_map (l : List UInt8) : (l.toArray.map fun b => Value.int .u8 (b.toNat : Int)).toList = l.map u8V := by
  simp [u8V]

theorem stringToBytes_sound {src dst e l n name : Nat} (hn : ρ.blk name = none) (h : toBytes P src dst = some e) (hb : n < pw l) (hl : l ≤ capBound) :
    NewOk P ρ w (convert src dst (strV l n)) name (.slice name 0 l (.rest 0)) (.row (.bytes l n) e true) := by
  obtain ⟨h1, h2, h3, h4⟩ := toBytes_eq h
  have hu := u8T_eq h3
  have hsz : (⟨(bytesL l n).toArray⟩ : ByteArray).size = l := by show (bytesL l n).toArray.size = l; simp
  generalize hcap : (Question.appendCap l 0 e).cut (w.tape w.drawn (Question.appendCap l 0 e)) = cap
  have hle : l ≤ cap := by rw [← hcap]; simp [Question.cut]
  have hcb : cap ≤ 9223372036854775807 := by
    rw [← hcap]; simp only [capBound] at hl; simp only [Question.cut]
    have := Nat.mod_lt (w.tape w.drawn (Question.appendCap l 0 e)) (show 0 < 2 ^ 63 - l by omega)
    omega
  have hcap2 := Env.ext_cap ρ name w.heap.size cap hcb
  have harr : ∀ arr : Array Value, arr = ((bytesL l n).map u8V ++ List.replicate (cap - l) (u8V 0)).toArray → arr.size = cap := by
    intro arr ha; rw [ha]; simp; omega
  refine ⟨.slice (some ⟨w.heap.size, 0, none⟩) l cap, { w with drawn := w.drawn + 1, heap := w.heap.push (.cells ((bytesL l n).map u8V ++ List.replicate (cap - l) (u8V 0)).toArray e (cap, cap + 1)) },
    .cells ((bytesL l n).map u8V ++ List.replicate (cap - l) (u8V 0)).toArray e (cap, cap + 1), cap, ?_, rfl, ⟨rfl, rfl, rfl⟩, ?_, ?_⟩
  · have hz : (Value.int .u8 0 : Value) = u8V 0 := rfl
    simp only [convert, strV, Sem.run_bind, run_underlying h1, run_underlying h2, run_underlying hu, Result.andThen, Conv.stringToBytes, hsz]
    have hf : (Question.appendCap l 0 e).forced = false := rfl
    rw [run_choose]
    simp only [hf, Bool.false_eq_true, if_false, hcap]
    have e1 : (Array.map (fun b : UInt8 => Value.int .u8 (b.toNat : Int)) (bytesL l n).toArray ++ Array.replicate (cap - l) (Value.int .u8 0)) = ((bytesL l n).map u8V ++ List.replicate (cap - l) (u8V 0)).toArray := by
      apply Array.ext'
      simp only [Array.toList_append, Array.toList_map, Array.toList_replicate]
      rfl
    simp only [e1, newRow, Sem.run_bind, run_newObj_alloc, Sem.run_pure, Result.andThen, markStringish, run_shape, World.shape?, heap_alloc_new]
    simp only [harr _ rfl, run_freeze, World.freeze, Sem.run_pure, Result.andThen]
    simp only [Nat.one_ne_zero, if_false, World.alloc]
    rw [modify_push]
    rfl
  · simp [AV.conc, hle, hcap2]
  · refine ⟨_, _, rfl, ⟨⟨(bytesL l n).map u8V, concC_bytes.2 ⟨hb, rfl⟩, fun h => (by cases h), fun _ => ⟨List.replicate (cap - l) (u8V 0), (by simp)⟩⟩, fun _ => ⟨0, h4, ?_⟩, by rw [u8_byteT h3]; rfl, fun h => ?_, ?_, Nat.le_succ _⟩⟩
    · rw [harr _ rfl]; simp [hcap2]
    · rw [u8_byteT h3] at h; cases h
    · intro off ho hh
      rw [harr _ rfl] at ho
      simp at hh
      omega

section
variable {ops : List Oper} {i : Nat} {T : Tr AV} {vs : List AV} {ev : Operand → Value}

/-- an operation makes a block -/
theorem newC_sound {o : Oper} {v : AV} {obj : AObj} {name : Nat} (hn : ρ.blk name = none) (hx : OpdOk ρ ops i T vs ev o.op.operands.toList) (h : (newC P ops i o).run T vs name = some (v, obj)) :
    ∃ c w' robj cap, (execOp ev o).run P w = .ok (.value c) w' ∧ w'.heap = w.heap.push robj ∧ Same w w' ∧ v.conc (ρ.ext name w.heap.size cap) = some c ∧ ORel P (ρ.ext name w.heap.size cap) name obj robj := by
  have fin : ∀ s : Sem Value, NewOk P ρ w s name v obj → (execOp ev o = do pure (Next.value (← s))) →
      ∃ c w' robj cap, (execOp ev o).run P w = .ok (.value c) w' ∧ w'.heap = w.heap.push robj ∧ Same w w' ∧ v.conc (ρ.ext name w.heap.size cap) = some c ∧ ORel P (ρ.ext name w.heap.size cap) name obj robj := by
    rintro s ⟨c, w', robj, cap, h1, h2⟩ he
    exact ⟨c, w', robj, cap, by rw [he]; exact run_v h1, h2⟩
  unfold newC at h
  split at h <;> rename_i hop
  · rename_i t
    split at h
    · rename_i z hz
      obtain ⟨zv, h1, h2⟩ := zeroT_sound (ρ := ρ) hz
      obtain ⟨c, w', robj, cap, g1, g2⟩ := newVar_sound (w := w) hn h1 h
      exact ⟨c, w', robj, cap, by simp only [execOp, hop]; exact run_v (by rw [run_alloc_eq t zv h2]; exact g1), g2⟩
    · simp [noNew] at h
  · rename_i t x
    simp only [] at h
    split at h
    · rename_i a ha
      exact fin _ (newVar_sound (w := w) hn (hx x (by simp [hop, Op.operands]) _ ha) h) (by simp only [execOp, hop, Instr.box])
    · cases h
  · rename_i t len ps
    simp only [] at h
    split at h
    · rename_i l hl
      split at h
      · rename_i r hr
        cases h
        have hp := partsC_sound (hx.sub (by simp [hop, Op.operands])) hl
        exact fin _ (buildSliceC_sound (w := w) hn hp hr) (by simp only [execOp, hop, arr_map])
      · cases h
    · cases h
  · rename_i t
    cases h
    exact ⟨.map (some w.heap.size), w.alloc (.map #[] 0), .map #[] 0, 0, by simp [execOp, hop, Instr.makeMap, Result.andThen], rfl, ⟨rfl, rfl, rfl⟩, by simp [AV.conc], ⟨[], rfl, rfl⟩⟩
  · rename_i t l c
    simp only [] at h
    split at h
    · rename_i a ha
      split at h
      · rename_i b hb
        exact fin _ (makeSliceC_sound (w := w) hn (hx l (by simp [hop, Op.operands]) _ ha) (hx c (by simp [hop, Op.operands]) _ hb) h) (by simp only [execOp, hop])
      · cases h
    · cases h
  · rename_i src dst x
    split at h
    · rename_i e he
      simp only [] at h
      split at h
      · rename_i a ha
        split at h
        · rename_i l n hs
          split at h
          · rename_i hle
            cases h
            have h0 := hx x (by simp [hop, Op.operands]) _ ha
            rw [asStr_eq hs] at h0
            obtain ⟨h1, h2⟩ := conc_str.1 h0
            exact fin _ (stringToBytes_sound (w := w) hn he h1 (Nat.le_of_ble_eq_true hle)) (by simp only [execOp, hop, h2])
          · cases h
        · cases h
      · cases h
    · simp [noNew] at h
  · simp [noNew] at h
end
end Go.Proofs.YtpmildboffolkaaGreat.Abs

namespace Go.Proofs.YtpmildboffolkaaGreat.Abs
variable {P : Program} {ρ : Env} {H : AHeap} {w : World}

/-! ## What writes -/
/-- what a computation comes to -/
def Did (P : Program) (ρ : Env) (H : AHeap) (w : World) (s : Sem Value) (v : AV) (H' : AHeap) : Prop :=
  ∃ ρ' w' c, s.run P w = .ok c w' ∧ Step P ρ H w ρ' H' w' ∧ v.conc ρ' = some c
def DidU (P : Program) (ρ : Env) (H : AHeap) (w : World) (s : Sem Unit) (H' : AHeap) : Prop :=
  ∃ ρ' w', s.run P w = .ok () w' ∧ Step P ρ H w ρ' H' w'

theorem Did.val (hH : HRel P ρ H w) {s : Sem Value} {v : AV} {c : Value} (h : s.run P w = .ok c w) (hv : v.conc ρ = some c) : Did P ρ H w s v H := ⟨ρ, w, c, h, .refl hH, hv⟩

theorem storeC_sound (hH : HRel P ρ H w) {t : Nat} {x v : AV} {cx cv : Value} {H' : AHeap} (hx : x.conc ρ = some cx) (hv : v.conc ρ = some cv) (h : (storeC P t).run H x v = some H') : DidU P ρ H w (Instr.storeAt t cx cv) H' := by
  unfold storeC at h
  split at h
  · rename_i n hn
    simp only [] at h
    split at h
    · rename_i b off hp
      rw [asPtr_eq hp] at hx
      obtain ⟨cb, h1, rfl⟩ := conc_ptr.1 hx
      split at h
      · rename_i l hl
        obtain ⟨g1, g2⟩ := cells_conc hv hl
        split at h
        · rename_i hb
          have hsz : cv.cells.size = n := by
            have e1 := concL_length g1
            have e2 : l.length = n := Nat.eq_of_beq_eq_true hb
            rw [← e2, ← e1]; simp
          obtain ⟨cb', w', k1, k2, k3⟩ := writePart_sound hH (concC_cells.2 ⟨g1, g2⟩) h
          rw [h1] at k1; cases k1
          refine ⟨ρ, w', ?_, k3⟩
          simp only [Instr.storeAt, Instr.sureAddr, storeVar, Sem.run_bind, Sem.run_pure, Result.andThen, run_sizeT hn, hsz, ne_eq, not_true_eq_false, if_false]
          exact k2
        · cases h
      · cases h
    · cases h
  · cases h

theorem run_setObj {r : Nat} {o o0 : Obj} (h : w.heap[r]? = some o0) (hr : ∀ a e f, o0 ≠ .cells a e f) : (setObj r o).run P w = .ok () { w with heap := w.heap.setIfInBounds r o } := by
  cases o0 <;> first | exact absurd rfl (hr _ _ _) | simp [setObj, Sem.run, h]

theorem run_getObj {r : Nat} {o0 : Obj} (h : w.heap[r]? = some o0) (hr : ∀ a e f, o0 ≠ .cells a e f) : (getObj r).run P w = .ok o0 w := by
  cases o0 <;> first | exact absurd rfl (hr _ _ _) | simp [getObj, Sem.run, h]

theorem set_step (hH : HRel P ρ H w) {b cb : Nat} {o0 o : AObj} {obj obj0 : Obj} (hb : H.get b = some ⟨o0, none⟩) (hcb : ρ.blk b = some cb) (h0 : w.heap[cb]? = some obj0) (ho : ORel P ρ b o obj) :
    Step P ρ H w ρ (H.put b none o) { w with heap := w.heap.setIfInBounds cb obj } := by
  have hlt : cb < w.heap.size := (Array.getElem?_eq_some_iff.1 h0).1
  refine put_step hH hb hcb (by simp) (by simp [hlt]) (fun r hr => ?_) ⟨rfl, rfl, rfl⟩ ho
  have : cb ≠ r := fun e => hr e.symm
  simp [Array.getElem?_setIfInBounds, this]

theorem asMapO_none {e : Option AEnt} {es : List (AV × AV × Nat)} {c : Nat} (h : asMapO e = some (es, c)) : e = some ⟨.map es c, none⟩ := by
  unfold asMapO at h
  split at h
  · cases h; rfl
  · cases h
theorem asIter_none {e : Option AEnt} {m : Option Nat} {s c : Nat} {l : List Nat} (h : asIter e = some (m, s, l, c)) : e = some ⟨.mapIter m s l c, none⟩ := by
  unfold asIter at h
  split at h
  · cases h; rfl
  · cases h

theorem HRel.mapO' (hH : HRel P ρ H w) {r : Nat} {es : List (AV × AV × Nat)} {c : Nat} (h : asMapO (H.get r) = some (es, c)) :
    ∃ cr l, H.get r = some ⟨.map es c, none⟩ ∧ ρ.blk r = some cr ∧ concE ρ es = some l ∧ w.heap[cr]? = some (.map l.toArray c) := by
  obtain ⟨cr, o, h1, h2, h3⟩ := hH.obj r _ (asMapO_none h)
  obtain ⟨l, h4, rfl⟩ := h3
  exact ⟨cr, l, asMapO_none h, h1, h4, h2⟩

theorem concE_length : ∀ {es : List (AV × AV × Nat)} {l : List MapEntry}, concE ρ es = some l → l.length = es.length
  | [], l, h => by simp [concE] at h; subst h; rfl
  | (k, v, n) :: es, l, h => by
    obtain ⟨a, b, r, _, _, h3, rfl⟩ := concE_cons.1 h
    simp [concE_length h3]

theorem concE_append : ∀ {es fs : List (AV × AV × Nat)} {l r : List MapEntry}, concE ρ es = some l → concE ρ fs = some r → concE ρ (es ++ fs) = some (l ++ r)
  | [], fs, l, r, h, k => by simp [concE] at h; subst h; simpa using k
  | (a, v, n) :: es, fs, l, r, h, k => by
    obtain ⟨x, y, l', h1, h2, h3, rfl⟩ := concE_cons.1 h
    simp only [List.cons_append]
    exact concE_cons.2 ⟨x, y, l' ++ r, h1, h2, concE_append h3 k, rfl⟩

theorem setAt_conc {k v : AV} {ck cv : Value} (hk : k.conc ρ = some ck) (hv : v.conc ρ = some cv) : ∀ {es : List (AV × AV × Nat)} {l : List MapEntry} (i : Nat), concE ρ es = some l →
    concE ρ (setAt es i k v) = some (l.modify i fun e => { key := ck, val := cv, born := e.born })
  | [], l, i, h => by simp [concE] at h; subst h; cases i <;> rfl
  | (a, u, n) :: es, l, i, h => by
    obtain ⟨x, y, l', h1, h2, h3, rfl⟩ := concE_cons.1 h
    cases i with
    | zero => simp only [setAt, List.modify_zero_cons]; exact concE_cons.2 ⟨ck, cv, l', hk, hv, h3, rfl⟩
    | succ j => simp only [setAt, List.modify_succ_cons]; exact concE_cons.2 ⟨x, y, _, h1, h2, setAt_conc hk hv j h3, rfl⟩

theorem dropAt_conc : ∀ {es : List (AV × AV × Nat)} {l : List MapEntry} (i : Nat), concE ρ es = some l → concE ρ (dropAt es i) = some (l.eraseIdx i)
  | [], l, i, h => by simp [concE] at h; subst h; cases i <;> rfl
  | (a, u, n) :: es, l, i, h => by
    obtain ⟨x, y, l', h1, h2, h3, rfl⟩ := concE_cons.1 h
    cases i with
    | zero => simpa [dropAt] using h3
    | succ j => simp only [dropAt, List.eraseIdx_cons_succ]; exact concE_cons.2 ⟨x, y, _, h1, h2, dropAt_conc j h3, rfl⟩

/-- keys that are found are the same -/
theorem eqKey_eq {kt : Nat} {d : Nat} {k k' : AV} (hkt : keyT P kt = true) (h : eqV P H (d + 1) kt k k' = some true) : k = k' := by
  obtain ⟨td, h1, h2⟩ := keyT_desc hkt
  unfold eqV at h
  rw [h1] at h
  cases td <;> simp [keyD] at h2
  · simp only [] at h
    split at h
    · rename_i kk a kk' b ha hb
      split at h
      · rename_i hk
        rw [asInt_eq ha, asInt_eq hb, beqK_eq hk]
        have := Option.some.inj h
        rw [beqI_eq] at this
        rw [eq_of_beq this]
      · cases h
    · cases h
  · simp only [] at h
    split at h
    · rename_i l n l' n' ha hb
      rw [asStr_eq ha, asStr_eq hb]
      have := Option.some.inj h
      simp only [strEq, Bool.and_eq_true] at this
      rw [Nat.eq_of_beq_eq_true this.1, Nat.eq_of_beq_eq_true this.2]
    · cases h
  · simp only [] at h
    split at h
    · rename_i b o b' o' ha hb
      split at h
      · unfold eqPtr at h
        split at h
        · split at h
          · split at h
            · rename_i hbb
              have e1 : b = b' := Nat.eq_of_beq_eq_true hbb
              have e2 : o = o' := Nat.eq_of_beq_eq_true (Option.some.inj h)
              rw [asPtr_eq ha, asPtr_eq hb, e1, e2]
            · split at h <;> cases h
          · cases h
        · cases h
      · cases h
    · rcases nilEq_eq h with ⟨e1, e2⟩ | ⟨_, _, e3⟩
      · have f1 : k = .nilp := by cases k <;> simp [AV.nilPtr] at e1 <;> rfl
        have f2 : k' = .nilp := by cases k' <;> simp [AV.nilPtr] at e2 <;> rfl
        rw [f1, f2]
      · cases e3

theorem findK_key {kt : Nat} {k : AV} (hkt : keyT P kt = true) : ∀ {es : List (AV × AV × Nat)} {j i : Nat} {v : AV}, findK (eqV P H 8 kt) k es j = some (some (i, v)) → j ≤ i ∧ ∃ u n, es[i - j]? = some (k, u, n)
  | [], j, i, v, h => by simp [findK] at h
  | (k', u, n) :: es, j, i, v, h => by
    simp only [findK] at h
    split at h
    · rename_i hq
      cases h
      exact ⟨Nat.le_refl _, u, n, by simp [eqKey_eq hkt hq]⟩
    · obtain ⟨h1, u', n', h2⟩ := findK_key hkt h
      refine ⟨by omega, u', n', ?_⟩
      have : i - j = (i - (j + 1)) + 1 := by omega
      rw [this, List.getElem?_cons_succ]
      exact h2
    · cases h

theorem concE_get : ∀ {es : List (AV × AV × Nat)} {l : List MapEntry} {i n : Nat} {k v : AV}, concE ρ es = some l → es[i]? = some (k, v, n) → ∃ a b, k.conc ρ = some a ∧ v.conc ρ = some b ∧ l[i]? = some { key := a, val := b, born := n }
  | [], l, i, n, k, v, h, e => by simp at e
  | (a, u, m) :: es, l, i, n, k, v, h, e => by
    obtain ⟨x, y, l', h1, h2, h3, rfl⟩ := concE_cons.1 h
    cases i with
    | zero => simp at e; obtain ⟨rfl, rfl, rfl⟩ := e; exact ⟨x, y, h1, h2, rfl⟩
    | succ j => simpa using concE_get h3 (by simpa using e)

theorem sameBits_self {kt : Nat} (hkt : keyT P kt = true) {d : Nat} {k k' : AV} {c : Value} (h : eqV P H (d + 1) kt k k' = some true) (hk : k.conc ρ = some c) (n : Nat) : Instr.sameBits (n + 1) c c = true := by
  obtain ⟨td, h1, h2⟩ := keyT_desc hkt
  unfold eqV at h
  rw [h1] at h
  cases td <;> simp [keyD] at h2
  · simp only [] at h
    split at h
    · rename_i ha _
      rw [asInt_eq ha] at hk; cases hk
      simp [Instr.sameBits]
    · cases h
  · simp only [] at h
    split at h
    · rename_i ha _
      rw [asStr_eq ha] at hk
      obtain ⟨_, rfl⟩ := conc_str.1 hk
      simp only [Instr.sameBits, strV]
      rw [beq_strV]
      simp
    · cases h
  · simp only [] at h
    split at h
    · rename_i ha _
      rw [asPtr_eq ha] at hk
      obtain ⟨cb, _, rfl⟩ := conc_ptr.1 hk
      simp [Instr.sameBits]
    · rcases nilEq_eq h with ⟨e1, e2⟩ | ⟨_, _, e3⟩
      · have f1 : k = .nilp := by cases k <;> simp [AV.nilPtr] at e1 <;> rfl
        subst f1
        cases hk
        simp [Instr.sameBits]
      · cases e3

theorem findK_eq {kt : Nat} {k : AV} : ∀ {es : List (AV × AV × Nat)} {j i : Nat} {v : AV}, findK (eqV P H 8 kt) k es j = some (some (i, v)) → ∃ k', eqV P H 8 kt k k' = some true
  | [], j, i, v, h => by simp [findK] at h
  | (k', u, n) :: es, j, i, v, h => by
    simp only [findK] at h
    split at h
    · rename_i hq; exact ⟨k', hq⟩
    · exact findK_eq h
    · cases h

theorem mapUpdateC_sound (hH : HRel P ρ H w) {t : Nat} {m k v : AV} {cm ck cv : Value} {H' : AHeap} (hm : m.conc ρ = some cm) (hk : k.conc ρ = some ck) (hv : v.conc ρ = some cv)
    (h : (mapUpdateC P t).run H m k v = some H') : DidU P ρ H w (Instr.mapUpdate t cm ck cv) H' := by
  unfold mapUpdateC at h
  split at h
  · rename_i kt et hmt
    obtain ⟨hmd, hkt⟩ := mapT_eq hmt
    simp only [] at h
    split at h
    · rename_i r hr
      rw [asMap_eq hr] at hm
      obtain ⟨cr, h1, rfl⟩ := conc_map.1 hm
      split at h
      · rename_i es clock hes
        obtain ⟨cr', l, g1, g2, g3, g4⟩ := hH.mapO' hes
        rw [h1] at g2; cases g2
        split at h
        · rename_i i v0 hf
          cases h
          obtain ⟨r', f1, f2⟩ := findKey_sound hH hkt hk g3 hf
          cases r' with
          | none => exact f1.elim
          | some p =>
            obtain ⟨j, u⟩ := p
            obtain ⟨rfl, f3⟩ := f1
            obtain ⟨_, u', n', e1⟩ := findK_key hkt hf
            obtain ⟨a, b, a1, a2, a3⟩ := concE_get g3 (by simpa using e1)
            rw [hk] at a1; cases a1
            obtain ⟨k', hk'⟩ := findK_eq hf
            have hs := sameBits_self (ρ := ρ) hkt hk' hk 9999
            refine ⟨ρ, _, ?_, set_step hH g1 h1 g4 (o := .map (setAt es i k v) clock) (obj := .map (l.modify i fun e => { key := ck, val := cv, born := e.born }).toArray clock) ⟨_, setAt_conc hk hv i g3, rfl⟩⟩
            have a3' : l.toArray[i]? = some { key := ck, val := b, born := n' } := by simpa using a3
            simp only [Instr.mapUpdate, Sem.run_bind, run_underlying hmd, Result.andThen, run_getObj_map g4, run_checkKey_ok hkt false 9999 ck, f2, Instr.keyThatStays, a3', Option.map_some, Option.getD_some, hs, if_true, Sem.run_pure]
            rw [run_setObj g4 (by simp)]
            congr 3
            simp
        · rename_i hf
          cases h
          obtain ⟨r', f1, f2⟩ := findKey_sound hH hkt hk g3 hf
          cases r' with
          | some p => exact f1.elim
          | none =>
            refine ⟨ρ, _, ?_, set_step hH g1 h1 g4 (o := .map (es ++ [(k, v, clock)]) (clock + 1)) (obj := .map (l ++ [({ key := ck, val := cv, born := clock } : MapEntry)]).toArray (clock + 1)) ⟨_, concE_append g3 (concE_cons.2 ⟨ck, cv, [], hk, hv, rfl, rfl⟩), rfl⟩⟩
            simp only [Instr.mapUpdate, Sem.run_bind, run_underlying hmd, Result.andThen, run_getObj_map g4, run_checkKey_ok hkt false 9999 ck, f2]
            rw [run_setObj g4 (by simp)]
            congr 3
            simp
        · cases h
      · cases h
    · cases h
  · cases h

theorem deleteC_sound (hH : HRel P ρ H w) {t t2 ty : Nat} {m k : AV} {cm ck : Value} {H' : AHeap} (hm : m.conc ρ = some cm) (hk : k.conc ρ = some ck)
    (h : (deleteC P t).run H m k = some H') : Did P ρ H w (Builtin.delete_ #[t, t2] ty #[cm, ck]) AV.undef H' := by
  unfold deleteC at h
  split at h
  · rename_i kt et hmt
    obtain ⟨hmd, hkt⟩ := mapT_eq hmt
    simp only [] at h
    split at h
    · rename_i r hr
      rw [asMap_eq hr] at hm
      obtain ⟨cr, h1, rfl⟩ := conc_map.1 hm
      split at h
      · rename_i es clock hes
        obtain ⟨cr', l, g1, g2, g3, g4⟩ := hH.mapO' hes
        rw [h1] at g2; cases g2
        split at h
        · rename_i i v0 hf
          cases h
          obtain ⟨r', f1, f2⟩ := findKey_sound hH hkt hk g3 hf
          cases r' with
          | none => exact f1.elim
          | some p =>
            obtain ⟨j, u⟩ := p
            obtain ⟨rfl, f3⟩ := f1
            obtain ⟨_, u', n', e1⟩ := findK_key hkt hf
            obtain ⟨a, b, a1, a2, a3⟩ := concE_get g3 (by simpa using e1)
            refine ⟨ρ, _, .tuple #[], ?_, set_step hH g1 h1 g4 (o := .map (dropAt es i) clock) (obj := .map (l.eraseIdx i).toArray clock) ⟨_, dropAt_conc i g3, rfl⟩, rfl⟩
            have hlt : i < l.length := (List.getElem?_eq_some_iff.1 a3).1
            have he : l.toArray.eraseIdxIfInBounds i = (l.eraseIdx i).toArray := by simp [Array.eraseIdxIfInBounds, hlt]
            simp [Builtin.delete_, run_underlying hmd, run_getObj_map g4, run_checkKey_ok hkt _ 9999 ck, f2, he, run_setObj g4]
        · rename_i hf
          cases h
          obtain ⟨r', f1, f2⟩ := findKey_sound hH hkt hk g3 hf
          cases r' with
          | some p => exact f1.elim
          | none =>
            have hw : w.heap.setIfInBounds cr (.map l.toArray clock) = w.heap := by
              apply Array.ext_getElem?
              intro i
              rw [Array.getElem?_setIfInBounds]
              split
              · rename_i e; subst e
                split
                · rw [g4]
                · rename_i hn; rw [Array.getElem?_eq_none (by omega)]
              · rfl
            refine ⟨ρ, w, .tuple #[], ?_, .refl hH, rfl⟩
            simp [Builtin.delete_, run_underlying hmd, run_getObj_map g4, run_checkKey_ok hkt _ 9999 ck, f2, run_setObj g4, hw]
        · cases h
      · cases h
    · split at h
      · rename_i hn
        cases h
        rw [isNilm_eq hn] at hm
        cases hm
        refine ⟨ρ, w, .tuple #[], ?_, .refl hH, rfl⟩
        simp [Builtin.delete_, run_underlying hmd, run_checkKey_ok hkt _ 9999 ck]
      · cases h
  · cases h
end Go.Proofs.YtpmildboffolkaaGreat.Abs

namespace Go.Proofs.YtpmildboffolkaaGreat.Abs
variable {P : Program} {ρ : Env} {H : AHeap} {w : World}

theorem rangeV_sound (hH : HRel P ρ H w) {t : Nat} {x v : AV} {cx : Value} {H' : AHeap} (hx : x.conc ρ = some cx) (h : rangeV P H t x = .ok v H') : Did P ρ H w (Instr.range t cx) v H' := by
  unfold rangeV at h
  split at h
  · rename_i k e hd
    split at h
    · rename_i m hm
      rw [asMap_eq hm] at hx
      obtain ⟨cr, h1, rfl⟩ := conc_map.1 hx
      split at h
      · rename_i es clock hes
        cases h
        obtain ⟨cr', l, g1, g2, g3, g4⟩ := hH.mapO' hes
        rw [h1] at g2; cases g2
        have hf : ρ.blk H.next = none := by
          cases hb : ρ.blk H.next with
          | none => rfl
          | some c => exact absurd (hH.fresh _ _ hb) (by omega)
        refine ⟨_, _, .pointer (some ⟨w.heap.size, 0, none⟩), ?_, new_step (n := 0) (obj := .mapIter (some cr) clock #[] clock) (w' := w.alloc (.mapIter (some cr) clock #[] clock)) hH rfl ⟨rfl, rfl, rfl⟩ ?_, by simp [AV.conc]⟩
        · simp [Instr.range, run_underlying hd, run_getObj_map g4, Result.andThen]
        · exact ⟨cr, ((Env.le_ext ρ H.next w.heap.size 0 hf) _ _ h1).1, rfl⟩
      · cases h
    · split at h
      · rename_i hn
        cases h
        rw [isNilm_eq hn] at hx
        cases hx
        refine ⟨_, _, .pointer (some ⟨w.heap.size, 0, none⟩), ?_, new_step (n := 0) (obj := .mapIter none 0 #[] 0) (w' := w.alloc (.mapIter none 0 #[] 0)) hH rfl ⟨rfl, rfl, rfl⟩ ?_, by simp [AV.conc]⟩
        · simp [Instr.range, run_underlying hd, Result.andThen]
        · rfl
      · cases h
  · cases h

theorem memN_eq (n : Nat) : ∀ l, memN n l = l.contains n
  | [] => rfl
  | m :: l => by
    simp only [memN, List.contains_cons, memN_eq n l]
    congr 1
    rw [Bool.eq_iff_iff]
    simp [Nat.beq_eq]

theorem allFrom_conc (n : Nat) : ∀ {es : List (AV × AV × Nat)} {l : List MapEntry}, concE ρ es = some l → allFrom n es = l.all fun e => decide (e.born ≥ n)
  | [], l, h => by simp [concE] at h; subst h; rfl
  | (a, u, m) :: es, l, h => by
    obtain ⟨x, y, l', h1, h2, h3, rfl⟩ := concE_cons.1 h
    simp only [allFrom, List.all_cons, allFrom_conc n h3]
    congr 1
    rw [Bool.eq_iff_iff]
    simp

theorem leftOf_conc (seen : List Nat) : ∀ {es : List (AV × AV × Nat)} {l : List MapEntry}, concE ρ es = some l → concE ρ (leftOf seen es) = some (l.filter fun e => !seen.contains e.born)
  | [], l, h => by simp [concE] at h; subst h; rfl
  | (a, u, m) :: es, l, h => by
    obtain ⟨x, y, l', h1, h2, h3, rfl⟩ := concE_cons.1 h
    simp only [leftOf, memN_eq]
    split
    · rename_i hs
      rw [List.filter_cons]
      simp only [hs, Bool.not_true, Bool.false_eq_true, if_false]
      exact leftOf_conc seen h3
    · rename_i hs
      have := leftOf_conc seen h3
      rw [List.filter_cons]
      simp only [hs, Bool.not_false, if_true]
      exact concE_cons.2 ⟨x, y, _, h1, h2, this, rfl⟩

theorem noL_eq {α : Type} (l : List α) : noL l = l.isEmpty := by cases l <;> rfl

theorem nextV_sound (hH : HRel P ρ H w) {x v : AV} {cx : Value} {ty : Nat} {H' : AHeap} (hx : x.conc ρ = some cx) (h : nextV H x = .ok v H') : Did P ρ H w (Instr.next cx false ty) v H' := by
  unfold nextV at h
  split at h
  · rename_i r hp
    rw [asPtr_eq hp] at hx
    obtain ⟨cr, h1, rfl⟩ := conc_ptr.1 hx
    split at h
    · rename_i s l c hi
      cases h
      obtain ⟨cr', o, g1, g2, g3⟩ := hH.obj r _ (asIter_none hi)
      rw [h1] at g1; cases g1
      have g3' : o = .mapIter none s l.toArray c := g3
      subst g3'
      refine .val hH (c := .tuple #[.bool false]) ?_ rfl
      simp [Instr.next, run_getObj g2, Result.andThen]
    · rename_i m since seen last hi
      obtain ⟨cr', o, g1, g2, g3⟩ := hH.obj r _ (asIter_none hi)
      rw [h1] at g1; cases g1
      obtain ⟨cm, k1, k2⟩ := g3
      subst k2
      split at h
      · rename_i es clock hes
        obtain ⟨cm', l, m1, m2, m3, m4⟩ := hH.mapO' hes
        rw [k1] at m2; cases m2
        split at h
        · cases h
        · rename_i hno
          have hno' : (!seen.toArray.isEmpty && !l.toArray.isEmpty && l.toArray.all fun e => decide (e.born ≥ last)) = false := by
            rw [noL_eq, noL_eq, allFrom_conc last m3] at hno
            have hl : es.isEmpty = l.isEmpty := by
              have := concE_length m3
              cases es <;> cases l <;> simp_all
            rw [hl] at hno
            simpa [Bool.and_assoc] using hno
          have hfil := leftOf_conc seen m3
          have harr : (l.toArray.filter fun e => !seen.toArray.contains e.born) = (l.filter fun e => !seen.contains e.born).toArray := by simp
          split at h
          · rename_i hl
            cases h
            rw [hl] at hfil
            have hfil' : (l.filter fun e => !seen.contains e.born) = [] := (Option.some.inj hfil).symm
            refine .val hH (c := .tuple #[.bool false]) ?_ rfl
            simp only [Instr.next, Sem.run_bind, run_getObj g2 (by simp), Result.andThen, run_getObj_map m4, hno', Bool.false_eq_true, if_false, harr, hfil']
            simp [Question.forced]
          · rename_i e hl
            obtain ⟨ak, av, an⟩ := e
            rw [hl] at hfil
            obtain ⟨x, y, l0, e1, e2, e3, e4⟩ := concE_cons.1 hfil
            simp [concE] at e3
            subst e3
            split at h
            · rename_i hlt
              cases h
              have hlt' : an < since := by simpa [Nat.blt_eq] using hlt
              refine ⟨ρ, _, .tuple #[.bool true, x, y], ?_, set_step hH (asIter_none hi) h1 g2 (o := .mapIter (some m) since (seen ++ [an]) clock) (obj := .mapIter (some cm) since (seen ++ [an]).toArray clock) ⟨cm, k1, rfl⟩, ?_⟩
              · simp only [Instr.next, Sem.run_bind, run_getObj g2 (by simp), Result.andThen, run_getObj_map m4, hno', Bool.false_eq_true, if_false, harr, e4]
                have hn : ¬ since ≤ an := by omega
                simp [Question.forced, hlt', hn, run_setObj g2, Result.andThen]
              · simp [AV.conc, AV.concL, e1, e2]
            · cases h
          · cases h
      · cases h
    · cases h
  · cases h

theorem clearC_sound (hH : HRel P ρ H w) {t ty : Nat} {x v : AV} {cx : Value} {H' : AHeap} (hx : x.conc ρ = some cx) (h : (clearC P t).run H x = .ok v H') : Did P ρ H w (Builtin.clear_ #[t] ty #[cx]) v H' := by
  unfold clearC at h
  split at h
  · cases h
  · rename_i d hd
    simp only [] at h
    split at h
    · rename_i r hr
      rw [asMap_eq hr] at hx
      obtain ⟨cr, h1, rfl⟩ := conc_map.1 hx
      split at h
      · rename_i es clock hes
        cases h
        obtain ⟨cr', l, g1, g2, g3, g4⟩ := hH.mapO' hes
        rw [h1] at g2; cases g2
        refine ⟨ρ, _, .tuple #[], ?_, set_step hH g1 h1 g4 (o := .map [] clock) (obj := .map #[] clock) ⟨[], rfl, rfl⟩, rfl⟩
        cases d <;> simp [Builtin.clear_, run_underlying hd, run_getObj_map g4, run_setObj g4, Result.andThen]
      · cases h
    · split at h
      · rename_i hn
        cases h
        rcases Bool.or_eq_true_iff.1 hn with hn | hn
        · rw [isNilm_eq hn] at hx
          cases hx
          refine .val hH (c := .tuple #[]) ?_ rfl
          cases d <;> simp [Builtin.clear_, run_underlying hd, Result.andThen]
        · rw [isNils_eq hn] at hx
          cases hx
          refine .val hH (c := .tuple #[]) ?_ rfl
          cases d <;> simp [Builtin.clear_, run_underlying hd, Result.andThen]
      · split at h
        · rename_i b off n cap hs
          rw [asSlice_eq hs] at hx
          obtain ⟨cb, nn, h1, rfl, _, _⟩ := conc_slice hx
          split at h
          · cases h
            refine .val hH (c := .tuple #[]) ?_ rfl
            cases d <;> simp [Builtin.clear_, run_underlying hd, Result.andThen]
          · rename_i n0
            split at h
            · rename_i e he
              split at h
              · rename_i z hz
                have hde : d = .slice e := by have := sliT_eq he; rw [hd] at this; exact Option.some.inj this
                subst hde
                obtain ⟨zv, z1, z2, z3, z4, z5⟩ := zeroChunk_sound (ρ := ρ) hz
                cases hw : writePart H b off z with
                | none => simp [okH, hw] at h
                | some H1 =>
                  simp only [okH, hw] at h
                  cases h
                  obtain ⟨cb', w', k1, k2, k3⟩ := writePart_sound hH z3 hw
                  rw [h1] at k1; cases k1
                  refine ⟨ρ, w', .tuple #[], ?_, k3, rfl⟩
                  simp [Builtin.clear_, run_underlying hd, Result.andThen, z1, zeroCells_list, k2]
              · cases h
            · cases h
        · cases h

theorem firstOf_sound (hH : HRel P ρ H w) {size n : Nat} {x : AV} {cx : Value} {c : Chunk} (hx : x.conc ρ = some cx) (h : firstOf H size n x = some c) :
    ∃ xs, concC ρ c = some xs ∧ xs.length = n * size ∧ (Builtin.firstCells size n cx).run P w = .ok xs.toArray w := by
  unfold firstOf at h
  split at h
  · rename_i b off l cap hs
    rw [asSlice_eq hs] at hx
    obtain ⟨cb, nn, h1, rfl, _, _⟩ := conc_slice hx
    obtain ⟨cb', xs, g1, g2, g3, g4⟩ := readPart_sound hH h
    rw [h1] at g1; cases g1
    refine ⟨xs, g2, g3, ?_⟩
    simp only [Builtin.firstCells]
    have hl := run_load_part (P := P) g4
    rw [g3] at hl
    exact hl
  · split at h
    · rename_i len m hs
      rw [asStr_eq hs] at hx
      obtain ⟨h1, rfl⟩ := conc_str.1 hx
      split at h
      · rename_i hle
        simp only [Bool.and_eq_true] at hle
        have hle' : n ≤ len := Nat.le_of_ble_eq_true hle.1
        have hs1 : size = 1 := Nat.eq_of_beq_eq_true hle.2
        cases h
        refine ⟨(bytesL n (sub len m 0 n)).map u8V, concC_bytes.2 ⟨by have := sub_lt len m 0 n; simpa using this, rfl⟩, by simp [hs1], ?_⟩
        have e := bytesL_sub (len := len) (n := m) (Nat.zero_le n) hle'
        simp only [Nat.sub_zero, List.drop_zero] at e
        simp only [Builtin.firstCells, strV, Sem.run_pure]
        congr 1
        apply Array.ext'
        rw [e]
        simp [ByteArray.extract, ByteArray.copySlice]
        rfl
      · cases h
    · split at h
      · rename_i hn
        split at h
        · cases h
          refine ⟨[], by simp [concC, pw, bytesL], by simp, ?_⟩
          rcases Bool.or_eq_true_iff.1 hn with hn | hn
          · rw [isNils_eq hn] at hx; cases hx
            simp [Builtin.firstCells]
          · obtain ⟨b, o, l, z, k, rfl⟩ := isEnd_eq hn
            obtain ⟨cb, _, _, rfl⟩ := conc_send hx
            simp [Builtin.firstCells, loadCells, loadCellsFrom]
        · cases h
      · cases h

theorem lenOf_sound {x : AV} {cx : Value} {n : Nat} (hx : x.conc ρ = some cx) (h : x.lenOf = some n) : (Builtin.lenOf cx).run P w = .ok n w := by
  cases x <;> simp only [AV.lenOf] at h <;> cases h
  · obtain ⟨_, rfl⟩ := conc_str.1 hx
    simp only [Builtin.lenOf, strV, Sem.run_pure]
    congr 1
    show (bytesL _ _).toArray.size = _
    simp
  · cases hx; rfl
  · obtain ⟨cb, nn, h1, rfl, _, _⟩ := conc_slice hx; rfl
  · obtain ⟨cb, _, _, rfl⟩ := conc_send hx; rfl

theorem copy_eq (dt t2 ty : Nat) (base : Option Addr) (dl cap : Nat) (cx : Value) : Builtin.copy_ #[dt, t2] ty #[.slice base dl cap, cx] = (do
    match ← underlying dt with
    | .slice elem => do
      let m ← Builtin.lenOf cx
      let size ← Go.sizeOf elem
      let cells ← Builtin.firstCells size (m.min dl) cx
      match base with
      | some a => do storeCells a cells.toList; pure (goInt ((m.min dl : Nat) : Int))
      | _ => pure (goInt ((m.min dl : Nat) : Int))
    | _ => stuck "copy: slice type expected") := rfl

theorem copyC_sound (hH : HRel P ρ H w) {dt t2 ty : Nat} {d x v : AV} {cd cx : Value} {H' : AHeap} (hd : d.conc ρ = some cd) (hx : x.conc ρ = some cx) (h : (copyC P dt).run H d x = .ok v H') :
    Did P ρ H w (Builtin.copy_ #[dt, t2] ty #[cd, cx]) v H' := by
  unfold copyC at h
  split at h
  · rename_i e he
    split at h
    · rename_i size hs
      simp only [] at h
      split at h
      · rename_i dl xl hdl hxl
        have hmin : minN xl dl = xl.min dl := by
          unfold minN
          split
          · rename_i hh; have := Nat.le_of_ble_eq_true hh; show xl = min xl dl; omega
          · rename_i hh
            have : ¬ xl ≤ dl := fun hc => by rw [Nat.ble_eq_true_of_le hc] at hh; cases hh
            show dl = min xl dl; omega
        have hlx := lenOf_sound (P := P) (w := w) hx hxl
        split at h
        · rename_i h0
          rw [hmin] at h0
          split at h
          · rename_i hcond
            cases h
            refine .val hH (c := .int .i64 0) ?_ rfl
            have hsl : ∃ b l c, cd = .slice b l c ∧ l = dl := by
              rcases Bool.or_eq_true_iff.1 hcond with h1 | h1
              · rcases Bool.or_eq_true_iff.1 h1 with h1 | h1
                · rw [isNils_eq h1] at hd hdl; cases hd; cases hdl; exact ⟨_, _, _, rfl, rfl⟩
                · obtain ⟨b, o, l, z, k, rfl⟩ := isEnd_eq h1
                  obtain ⟨cb, _, _, rfl⟩ := conc_send hd
                  cases hdl
                  exact ⟨_, _, _, rfl, rfl⟩
              · split at h1
                · rename_i p hp
                  obtain ⟨b, o, l, c⟩ := p
                  rw [asSlice_eq hp] at hd hdl
                  obtain ⟨cb, nn, _, rfl, _, _⟩ := conc_slice hd
                  cases hdl
                  exact ⟨_, _, _, rfl, rfl⟩
                · cases h1
            obtain ⟨b, l, c, rfl, rfl⟩ := hsl
            have hfc : ∃ xs : Array Value, (Builtin.firstCells size 0 cx).run P w = .ok xs w ∧ xs.toList = [] := by
              cases x <;> simp only [AV.lenOf] at hxl <;> cases hxl
              · obtain ⟨_, rfl⟩ := conc_str.1 hx
                refine ⟨#[], ?_, rfl⟩
                simp [Builtin.firstCells, strV, ByteArray.extract, ByteArray.copySlice]
              · cases hx; exact ⟨#[], rfl, rfl⟩
              · obtain ⟨cb, nn, _, rfl, _, _⟩ := conc_slice hx; exact ⟨#[], by simp [Builtin.firstCells, loadCells, loadCellsFrom], rfl⟩
              · obtain ⟨cb, _, _, rfl⟩ := conc_send hx; exact ⟨#[], by simp [Builtin.firstCells, loadCells, loadCellsFrom], rfl⟩
            obtain ⟨xs, f1, f2⟩ := hfc
            have hc := copy_eq dt t2 ty b l c cx
            rw [hc]
            simp only [Sem.run_bind, run_underlying (sliT_eq he), Result.andThen, hlx, h0, run_sizeT hs, f1, f2]
            cases b <;> rfl
          · cases h
        · rename_i n h0
          rw [hmin] at h0
          split at h
          · rename_i c b off _ _ hf hds
            obtain ⟨xs, f1, _, f2⟩ := firstOf_sound hH hx hf
            rw [asSlice_eq hds] at hd hdl
            obtain ⟨cb, nn, h1, rfl, _, _⟩ := conc_slice hd
            cases hdl
            cases hw : writePart H b off c with
            | none => simp [hw] at h
            | some H1 =>
              simp only [hw] at h
              cases h
              obtain ⟨cb', w', k1, k2, k3⟩ := writePart_sound hH f1 hw
              rw [h1] at k1; cases k1
              refine ⟨ρ, w', .int .i64 (.ofNat (n + 1)), ?_, k3, rfl⟩
              have f2' : (Builtin.firstCells size (n + 1) cx).run P w = .ok xs.toArray w := f2
              have h0' : xl.min dl = n + 1 := h0
              rw [copy_eq]
              simp only [Sem.run_bind, run_underlying (sliT_eq he), Result.andThen, hlx, h0', run_sizeT hs, f2', k2, Sem.run_pure]
              rfl
          · cases h
      · cases h
    · cases h
  · cases h
end Go.Proofs.YtpmildboffolkaaGreat.Abs

namespace Go.Proofs.YtpmildboffolkaaGreat.Abs
variable {P : Program} {ρ : Env} {H : AHeap} {w : World}

/-! ## append -/
/-- what is appended: elements of a slice, bytes of a string, or zeros -/
def AppArg (P : Program) (w : World) (xt e size bytes : Nat) (zv cx : Value) (n : Nat) (xs : List Value) : Prop :=
  (∃ dx, P.underlying xt = some dx ∧ intD dx = none ∧ (∀ w', (Builtin.lenOf cx).run P w' = .ok n w') ∧ ∀ w', w'.heap = w.heap → (Builtin.firstCells size n cx).run P w' = .ok xs.toArray w') ∨
  (∃ kn k, P.underlying xt = some (.int kn) ∧ cx = .int k (n : Int) ∧ n ≤ 1000000 ∧ n * bytes ≤ 281474976710656 ∧ ((n = 0 ∧ xs = []) ∨ (0 < n ∧ 0 < size ∧ xs = (Builtin.zeroCells zv.cells n).toList)))

section
variable {st xt ty e : Nat} {i : TypeInfo} {zv : Value} {base : Option Addr} {sLen sCap n : Nat} {cx : Value} {xs : List Value}

theorem wrap_small {n : Nat} (h : n ≤ 1000000) : IntKind.i64.wrap (n : Int) = n := by rw [IntKind.wrap_i64]; omega

theorem run_app_room (ht : P.underlying st = some (.slice e)) (hi : P.info? e = some i) (hz : i.zero = some zv) (ha : AppArg P w xt e i.size i.bytes zv cx n xs)
    (hroom : sLen + n ≤ sCap) {a : Addr} {w' : World} (hs : (storeCells (a.add (sLen * i.size)) xs).run P w = .ok () w') :
    (Builtin.append_ #[st, xt] ty #[.slice (some a) sLen sCap, cx]).run P w = .ok (.slice (some a) (sLen + n) sCap) w' := by
  rcases ha with ⟨dx, h1, h2, h3, h4⟩ | ⟨kn, k, h1, rfl, h3, h4, h5⟩
  · cases dx <;> simp [intD] at h2 <;>
      simp [Builtin.append_, run_underlying ht, run_underlying h1, sizeOf, typeInfo, hi, h3, h4 w rfl, hroom, hs, Result.andThen]
  · have hw := wrap_small h3
    have hneg : ¬ ((n : Int) < 0) := by omega
    have h48 : ¬ (281474976710656 < (n : Int) * (i.bytes : Int)) := by rw [← Int.natCast_mul]; omega
    rcases h5 with ⟨h0, rfl⟩ | ⟨h6, h7, rfl⟩
    · have hne : n * i.size = 0 := by rw [h0]; simp
      simp [Builtin.append_, run_underlying ht, run_underlying h1, sizeOf, typeInfo, hi, asInt, asIntOf, hw, hneg, h48, hs, Result.andThen, hroom, hne]
    · have hne : ¬ (n * i.size = 0) := Nat.ne_of_gt (Nat.mul_pos h6 h7)
      simp [Builtin.append_, run_underlying ht, run_underlying h1, sizeOf, typeInfo, zeroValue, hi, hz, asInt, asIntOf, hw, hneg, h48, hs, Result.andThen, hroom, hne]

theorem run_app_none (ht : P.underlying st = some (.slice e)) (hi : P.info? e = some i) (hz : i.zero = some zv) (ha : AppArg P w xt e i.size i.bytes zv cx 0 []) :
    (Builtin.append_ #[st, xt] ty #[.slice none 0 0, cx]).run P w = .ok (.slice none 0 0) w := by
  rcases ha with ⟨dx, h1, h2, h3, h4⟩ | ⟨kn, k, h1, rfl, h3, h4, h5⟩
  · cases dx <;> simp [intD] at h2 <;>
      simp [Builtin.append_, run_underlying ht, run_underlying h1, sizeOf, typeInfo, hi, h3, h4 w rfl, Result.andThen]
  · have hw : IntKind.i64.wrap 0 = 0 := by decide
    simp [Builtin.append_, run_underlying ht, run_underlying h1, sizeOf, typeInfo, hi, asInt, asIntOf, hw, Result.andThen]

set_option maxHeartbeats 2000000 in
theorem run_app_grow (ht : P.underlying st = some (.slice e)) (hi : P.info? e = some i) (hz : i.zero = some zv) (ha : AppArg P w xt e i.size i.bytes zv cx n xs)
    (hg : sCap < sLen + n) (hb : 0 < i.bytes) (hfit : (sLen + n) * i.bytes ≤ capBound) {olds : List Value} (ho : ∀ w', w'.heap = w.heap → (Builtin.firstCells i.size sLen (.slice base sLen sCap)).run P w' = .ok olds.toArray w') :
    (Builtin.append_ #[st, xt] ty #[.slice base sLen sCap, cx]).run P w =
      .ok (.slice (some ⟨w.heap.size, 0, none⟩) (sLen + n) (grownCap w (sLen + n) sCap e))
        (w.drew.alloc (.cells (olds.toArray ++ (xs.toArray ++ Builtin.zeroCells zv.cells (grownCap w (sLen + n) sCap e - (sLen + n)))) e)) := by
  have hn : ¬ (sLen + n ≤ sCap) := by omega
  have hle : sLen + n ≤ capBound := Nat.le_trans (Nat.le_mul_of_pos_right _ hb) hfit
  simp only [capBound] at hle hfit
  have h63' : ¬ (9223372036854775807 < ((sLen : Int) + (n : Int))) := by omega
  have h48' : ¬ (281474976710656 < Builtin.nextslicecap (sLen + n) sCap * i.bytes) := by
    have := growslice_fits (bytes := i.bytes) hg (by omega)
    omega
  have ho' := ho w.drew rfl
  rcases ha with ⟨dx, h1, h2, h3, h4⟩ | ⟨kn, k, h1, rfl, h3, h4, h5⟩
  · have h4' := h4 w.drew rfl
    cases dx <;> simp [intD] at h2 <;>
      simp [Builtin.append_, run_underlying ht, run_underlying h1, sizeOf, typeInfo, zeroValue, hi, hz, h3, hn, h63', h48', Question.forced, h4', ho', newRow, grownCap, Result.andThen]
  · have hw := wrap_small h3
    have hneg : ¬ ((n : Int) < 0) := by omega
    have h48 : ¬ (281474976710656 < (n : Int) * (i.bytes : Int)) := by rw [← Int.natCast_mul]; omega
    rcases h5 with ⟨h0, rfl⟩ | ⟨h6, h7, rfl⟩
    · have hne : n * i.size = 0 := by rw [h0]; simp
      simp [Builtin.append_, run_underlying ht, run_underlying h1, sizeOf, typeInfo, zeroValue, hi, hz, asInt, asIntOf, hw, hneg, h48, hn, h63', h48', Question.forced, ho', newRow, grownCap, Result.andThen, hne]
    · have hne : ¬ (n * i.size = 0) := Nat.ne_of_gt (Nat.mul_pos h6 h7)
      simp [Builtin.append_, run_underlying ht, run_underlying h1, sizeOf, typeInfo, zeroValue, hi, hz, asInt, asIntOf, hw, hneg, h48, hn, h63', h48', Question.forced, ho', newRow, grownCap, Result.andThen, hne]
end
end Go.Proofs.YtpmildboffolkaaGreat.Abs

namespace Go.Proofs.YtpmildboffolkaaGreat.Abs
variable {P : Program} {ρ : Env} {H : AHeap} {w : World}

/-! ### Where it is not known whether there is room -/
def unlink (H : AHeap) : Option Nat → Tr AEnt
  | none => H.tr
  | some p => H.tr.set p none
def pairH (H : AHeap) (b : Nat) (lk : Option Nat) (o r : AObj) : AHeap :=
  ⟨H.next + 1, ((unlink H lk).set b (some ⟨o, some H.next⟩)).set H.next (some ⟨r, some b⟩)⟩

theorem pairH_get (H : AHeap) (b : Nat) (lk : Option Nat) (o r : AObj) (x : Nat) :
    (pairH H b lk o r).get x = if x = H.next then some ⟨r, some b⟩ else if x = b then some ⟨o, some H.next⟩ else if lk = some x then none else H.get x := by
  simp only [pairH, AHeap.get, Tr.get_set]
  by_cases h0 : x = H.next
  · simp [h0]
  · by_cases h1 : x = b
    · subst h1; simp [h0]
    · cases lk with
      | none => simp [h0, h1, unlink]
      | some p =>
        simp only [unlink, Tr.get_set]
        by_cases h2 : x = p
        · subst h2; simp [h0, h1]
        · have : p ≠ x := fun e => h2 e.symm
          simp [h0, h1, h2, this]

theorem pair_step {ρ' : Env} {w' : World} {b cb cn : Nat} {o0 o r : AObj} {lk : Option Nat} {obj objn : Obj} (h : HRel P ρ H w) (hb : H.get b = some ⟨o0, lk⟩) (hcb : ρ.blk b = some cb)
    (hle : ρ.Le ρ') (hn : ρ'.blk H.next = some cn) (hother : ∀ x, x ≠ H.next → ρ'.blk x = ρ.blk x) (hcn : cn = cb ∨ w.heap.size ≤ cn)
    (hsize : w.heap.size ≤ w'.heap.size) (hobj : w'.heap[cb]? = some obj) (hobjn : w'.heap[cn]? = some objn) (hrest : ∀ q, q < w.heap.size → q ≠ cb → w'.heap[q]? = w.heap[q]?) (hs : Same w w')
    (ho : ORel P ρ' b o obj) (hr : ORel P ρ' H.next r objn) : Step P ρ H w ρ' (pairH H b lk o r) w' := by
  have hbn : b ≠ H.next := by have := h.fresh _ _ hcb; omega
  have hcblt : cb < w.heap.size := h.lt hb hcb
  have old : ∀ x e, x ≠ H.next → x ≠ b → (pairH H b lk o r).get x = some e → H.get x = some e ∧ lk ≠ some x := by
    intro x e h1 h2 he
    rw [pairH_get] at he
    simp only [h1, h2, if_false] at he
    split at he
    · cases he
    · exact ⟨he, by assumption⟩
  have apart : ∀ x e c, x ≠ b → H.get x = some e → lk ≠ some x → ρ.blk x = some c → c ≠ cb := by
    intro x e c h1 h2 h3 h4 e5
    subst e5
    rcases h.sep _ _ _ _ _ h2 hb h4 hcb with e6 | ⟨_, e7⟩
    · exact h1 e6
    · exact h3 e7
  refine ⟨hle, ⟨?_, ?_, ?_⟩, by simp [pairH], ?_, hsize, ?_, ?_, hs⟩
  · intro x e he
    by_cases h1 : x = H.next
    · subst h1
      rw [pairH_get] at he
      simp only [if_true] at he
      cases he
      exact ⟨cn, objn, hn, hobjn, hr⟩
    · by_cases h2 : x = b
      · subst h2
        rw [pairH_get] at he
        simp only [h1, if_false, if_true] at he
        cases he
        exact ⟨cb, obj, (hle _ _ hcb).1, hobj, ho⟩
      · obtain ⟨h3, h4⟩ := old x e h1 h2 he
        obtain ⟨c, ob, k1, k2, k3⟩ := h.obj x e h3
        have hc := apart x e c h2 h3 h4 k1
        have hlt : c < w.heap.size := (Array.getElem?_eq_some_iff.1 k2).1
        exact ⟨c, ob, (hle _ _ k1).1, by rw [hrest c hlt hc]; exact k2, k3.mono P hle k1⟩
  · intro x y e f c hx hy cx cy
    have blkold : ∀ z g, z ≠ H.next → z ≠ b → (pairH H b lk o r).get z = some g → ρ'.blk z = some c → c ≠ cb ∧ c < w.heap.size := by
      intro z g h1 h2 hz hcz
      obtain ⟨h3, h4⟩ := old z g h1 h2 hz
      rw [hother z h1] at hcz
      exact ⟨apart z g c h2 h3 h4 hcz, h.lt h3 hcz⟩
    have blkn : ∀ z, z = H.next → ρ'.blk z = some c → c = cb ∨ w.heap.size ≤ c := by
      intro z hz hcz
      subst hz
      rw [hn] at hcz; cases hcz
      exact hcn
    have blkb : ∀ z, z = b → ρ'.blk z = some c → c = cb := by
      intro z hz hcz
      subst hz
      rw [(hle _ _ hcb).1] at hcz; cases hcz; rfl
    by_cases x1 : x = H.next
    · by_cases y1 : y = H.next
      · exact .inl (x1.trans y1.symm)
      · by_cases y2 : y = b
        · right
          subst x1 y2
          rw [pairH_get] at hx hy
          simp only [if_true] at hx
          simp only [y1, if_false, if_true] at hy
          cases hx; cases hy
          exact ⟨rfl, rfl⟩
        · obtain ⟨k1, k2⟩ := blkold y f y1 y2 hy cy
          rcases blkn x x1 cx with k3 | k3 <;> omega
    · by_cases x2 : x = b
      · by_cases y1 : y = H.next
        · right
          subst y1 x2
          rw [pairH_get] at hx hy
          simp only [if_true] at hy
          simp only [x1, if_false, if_true] at hx
          cases hx; cases hy
          exact ⟨rfl, rfl⟩
        · by_cases y2 : y = b
          · exact .inl (x2.trans y2.symm)
          · obtain ⟨k1, k2⟩ := blkold y f y1 y2 hy cy
            exact absurd (blkb x x2 cx) k1
      · obtain ⟨k1, k2⟩ := blkold x e x1 x2 hx cx
        by_cases y1 : y = H.next
        · rcases blkn y y1 cy with k3 | k3 <;> omega
        · by_cases y2 : y = b
          · exact absurd (blkb y y2 cy) k1
          · obtain ⟨h3, _⟩ := old x e x1 x2 hx
            obtain ⟨h4, _⟩ := old y f y1 y2 hy
            rw [hother x x1] at cx
            rw [hother y y1] at cy
            exact h.sep _ _ _ _ _ h3 h4 cx cy
  · intro x c hc
    by_cases x1 : x = H.next
    · subst x1; simp [pairH]
    · rw [hother x x1] at hc
      have := h.fresh _ _ hc
      simp [pairH]; omega
  · intro x c hc
    by_cases x1 : x = H.next
    · right; omega
    · rw [hother x x1] at hc; exact .inl hc
  · intro q hq hno
    refine hrest q hq ?_
    intro e; subst e
    exact hno b _ hb hcb
  · intro x e q hx hq hlt
    by_cases x1 : x = H.next
    · subst x1
      rw [hn] at hq; cases hq
      rcases hcn with e1 | e1
      · subst e1; exact ⟨b, _, hb, hcb⟩
      · omega
    · by_cases x2 : x = b
      · subst x2
        rw [(hle _ _ hcb).1] at hq; cases hq
        exact ⟨x, _, hb, hcb⟩
      · obtain ⟨h3, _⟩ := old x e x1 x2 hx
        rw [hother x x1] at hq
        exact ⟨x, e, h3, hq⟩

theorem HRel.free_next (h : HRel P ρ H w) : ρ.blk H.next = none := by
  cases hb : ρ.blk H.next with
  | none => rfl
  | some c => exact absurd (h.fresh _ _ hb) (by omega)

theorem unsure_eq {b e n : Nat} {byte : Bool} {lk : Option Nat} {old all : Chunk} {v : AV} {H' : AHeap} (h : unsure H b e byte lk n old all = .ok v H') :
    ∃ r, all.asRow byte = some r ∧ v = .slice H.next 0 n (.rest 0) ∧ H' = pairH H b lk (.row old e true) (.row r e true) := by
  unfold unsure at h
  split at h
  · rename_i r hr
    cases h
    exact ⟨r, hr, rfl, by cases lk <;> rfl⟩
  · cases h

theorem grown_eq {e n : Nat} {byte : Bool} {c : Chunk} {v : AV} {H' : AHeap} (h : grown H e byte n c = .ok v H') :
    ∃ r, c.asRow byte = some r ∧ v = .slice H.next 0 n (.rest 0) ∧ H' = H.new (.row r e true) := by
  unfold grown at h
  split at h
  · rename_i r hr
    cases h
    exact ⟨r, hr, rfl, rfl⟩
  · cases h

/-- an open row that was made -/
theorem open_row {b e z cap n : Nat} {zv : Value} {r : Chunk} {vs : List Value} (hcap : ρ.cap b = cap) (hz : sizeT P e = some (z + 1)) (hzs : zv.cells.size = z + 1) (hr : concC ρ r = some vs) (hk : r.isBytes = byteT P e)
    (hlen : vs.length = n * (z + 1)) (hn : n ≤ cap) (arr : Array Value) (harr : arr.toList = vs ++ (Builtin.zeroCells zv.cells (cap - n)).toList) :
    ORel P ρ b (.row r e true) (.cells arr e) := by
  refine ⟨arr, (0, 0), rfl, ⟨⟨vs, hr, fun h => (by cases h), fun _ => ⟨_, harr⟩⟩, fun _ => ⟨z, hz, ?_⟩, hk, fun _ => rfl, fun off _ hh => by simp at hh, Nat.le_refl _⟩⟩
  rw [← Array.length_toList, harr, List.length_append, hlen, hcap]
  have e1 : (Builtin.zeroCells zv.cells (cap - n)).toList.length = (cap - n) * (z + 1) := by simp [Builtin.zeroCells, hzs]
  rw [e1, ← Nat.add_mul]
  congr 1
  omega
end Go.Proofs.YtpmildboffolkaaGreat.Abs

namespace Go.Proofs.YtpmildboffolkaaGreat.Abs
variable {P : Program} {ρ : Env} {H : AHeap} {w : World}

section
variable {st xt ty e z y : Nat} {i : TypeInfo} {zv : Value}

theorem grownCap_bound {w : World} {need old e : Nat} (h : need ≤ 17592186044416) : grownCap w need old e ≤ 9223372036854775807 := by
  have := grownCap_le_maxLen w need old e (by unfold maxLen; omega)
  unfold maxLen at this; omega

theorem grown_sound (hH : HRel P ρ H w) (ht : P.underlying st = some (.slice e)) (hi : P.info? e = some i) (hz : i.zero = some zv) (hsz : i.size = z + 1) (hby : i.bytes = y + 1) (hzs : zv.cells.size = z + 1)
    {base : Option Addr} {sLen sCap m : Nat} {cx : Value} {xs olds : List Value} {call : Chunk} {v : AV} {H' : AHeap} (ha : AppArg P w xt e i.size i.bytes zv cx m xs) (hm : xs.length = m * (z + 1)) (hol : olds.length = sLen * (z + 1))
    (hg : sCap < sLen + m) (hfit : (sLen + m) * i.bytes ≤ capBound) (ho : ∀ w', w'.heap = w.heap → (Builtin.firstCells i.size sLen (.slice base sLen sCap)).run P w' = .ok olds.toArray w')
    (hall : concC ρ call = some (olds ++ xs)) (h : grown H e (byteT P e) (sLen + m) call = .ok v H') :
    Did P ρ H w (Builtin.append_ #[st, xt] ty #[.slice base sLen sCap, cx]) v H' := by
  obtain ⟨r, h1, rfl, rfl⟩ := grown_eq h
  obtain ⟨r1, r2⟩ := Chunk.asRow_conc hall h1
  have hr := run_app_grow (ty := ty) ht hi hz ha hg (by omega) hfit ho
  have hle : sLen + m ≤ grownCap w (sLen + m) sCap e := grownCap_ge _ _ _ _
  have hneed : sLen + m ≤ 17592186044416 := by
    simp only [capBound] at hfit; rw [hby] at hfit
    exact Nat.le_trans (Nat.le_mul_of_pos_right _ (Nat.succ_pos y)) hfit
  have hcap2 := Env.ext_cap ρ H.next w.heap.size _ (grownCap_bound (w := w) (old := sCap) (e := e) hneed)
  have hsize : sizeT P e = some (z + 1) := by simp [sizeT, hi, hsz]
  refine ⟨_, _, _, hr, new_step (n := grownCap w (sLen + m) sCap e) hH rfl ⟨rfl, rfl, rfl⟩ ?_, ?_⟩
  · refine open_row (z := z) (n := sLen + m) (cap := grownCap w (sLen + m) sCap e) (vs := olds ++ xs) hcap2 hsize hzs (concC_mono (Env.le_ext _ _ _ _ hH.free_next) r1) r2 ?_ hle _ ?_
    · rw [List.length_append, hol, hm, Nat.add_mul]
    · simp
  · simp [AV.conc, hle, hcap2]

theorem appendV_sound (hH : HRel P ρ H w) (ht : P.underlying st = some (.slice e)) (hi : P.info? e = some i) (hz : i.zero = some zv) (hsz : i.size = z + 1) (hby : i.bytes = y + 1) (hzs : zv.cells.size = z + 1)
    {s v : AV} {cs cx : Value} {m : Nat} {x : Chunk} {xs : List Value} {H' : AHeap} (hs : s.conc ρ = some cs) (hx : concC ρ x = some xs) (hm : xs.length = m * (z + 1)) (ha : AppArg P w xt e i.size i.bytes zv cx m xs)
    (h : appendV H e (z + 1) (y + 1) (byteT P e) s m x = .ok v H') : Did P ρ H w (Builtin.append_ #[st, xt] ty #[cs, cx]) v H' := by
  have hsize : sizeT P e = some (z + 1) := by simp [sizeT, hi, hsz]
  have zero : ∀ {a : Addr} {l n : Nat}, m = 0 → l ≤ n → (Builtin.append_ #[st, xt] ty #[.slice (some a) l n, cx]).run P w = .ok (.slice (some a) l n) w := by
    intro a l n hm0 hle
    have hx0 : xs = [] := by rw [hm0] at hm; simpa using hm
    subst hm0 hx0
    have := run_app_room (ty := ty) (sLen := l) (sCap := n) (a := a) (w' := w) ht hi hz ha (by omega) (by simp [storeCells])
    simpa using this
  unfold appendV at h
  split at h
  · split at h
    · rename_i hn
      rw [isNils_eq hn] at hs
      cases hs
      split at h
      · cases h
        have hx0 : xs = [] := by simpa using hm
        subst hx0
        exact .val hH (run_app_none ht hi hz ha) rfl
      · rename_i m'
        split at h
        · rename_i hle
          have hle' : (m' + 1) * (y + 1) ≤ capBound := Nat.le_of_ble_eq_true hle
          have h' : grown H e (byteT P e) (0 + (m' + 1)) x = .ok v H' := by simpa using h
          exact grown_sound (olds := []) hH ht hi hz hsz hby hzs ha hm (by simp) (by omega) (by rw [hby]; simpa using hle') (fun w' _ => by simp [Builtin.firstCells]) (by simpa using hx) h'
        · cases h
    · split at h
      · rename_i hx0 hm0 he
        cases h
        obtain ⟨b, o, l, zz, k, rfl⟩ := isEnd_eq he
        have hs' := hs
        obtain ⟨cb, h1, h2, rfl⟩ := conc_send hs
        exact .val hH (zero rfl (Nat.zero_le _)) hs'
      · cases h
  · rename_i b off len cap hsl
    rw [asSlice_eq hsl] at hs
    obtain ⟨cb, n, h1, rfl, h2, h3⟩ := conc_slice hs
    split at h
    · cases h
      rw [asSlice_eq hsl]
      exact .val hH (zero rfl h2) hs
    · rename_i m'
      split at h
      · cases h
      · rename_i hfit
        have hfit' : (len + (m' + 1)) * (y + 1) ≤ capBound := Nat.le_of_ble_eq_true hfit
        split at h
        · rename_i c
          have hnc : n = c := h3
          subst hnc
          split at h
          · rename_i hle
            have hle' : len + (m' + 1) ≤ n := Nat.le_of_ble_eq_true hle
            split at h
            · rename_i H1 hw
              cases h
              obtain ⟨cb', w', k1, k2, k3⟩ := writePart_sound hH hx hw
              rw [h1] at k1; cases k1
              have hr := run_app_room (ty := ty) (a := ⟨cb, off, none⟩) ht hi hz ha hle' (w' := w') (by rw [addr_add, hsz]; exact k2)
              refine ⟨ρ, w', _, hr, k3, ?_⟩
              show (AV.slice b off (len + (m' + 1)) (.exact n)).conc ρ = _
              simp [AV.conc, h1, hle']
            · cases h
          · rename_i hle
            have hle' : ¬ (len + (m' + 1) ≤ n) := fun hc => by
              have : Nat.ble (Nat.add len (m' + 1)) n = true := Nat.ble_eq_true_of_le hc
              rw [this] at hle; cases hle
            split at h
            · rename_i old hold
              obtain ⟨cb', olds, g1, g2, g3, g4⟩ := readPart_sound hH hold
              rw [h1] at g1; cases g1
              have g3' : olds.length = len * (z + 1) := g3
              have hfo : ∀ w', w'.heap = w.heap → (Builtin.firstCells i.size len (.slice (some ⟨cb, off, none⟩) len n)).run P w' = .ok olds.toArray w' := by
                intro w' hw'
                simp only [Builtin.firstCells, hsz]
                have := run_load_part (P := P) (w := w') (cb := cb) (off := off) (xs := olds) (fun j v hj => by
                  have := g4 j v hj
                  rw [World.cell?_of_block (w := w) (w' := w') (a := ⟨cb, off + j, none⟩) (by rw [hw'])]
                  exact this)
                rw [g3'] at this
                exact this
              exact grown_sound (olds := olds) hH ht hi hz hsz hby hzs ha hm g3' (by omega) (by rw [hby]; exact hfit') hfo (Chunk.cat_conc g2 hx) h
            · cases h
        · rename_i k
          obtain ⟨h4, h5⟩ := h3
          split at h
          · cases h
          · rename_i hz0
            simp only [Bool.and_eq_true] at hz0
            have ho0 : off = 0 := Nat.eq_of_beq_eq_true hz0.1
            have hk0 : k = 0 := Nat.eq_of_beq_eq_true hz0.2
            subst ho0 hk0
            simp only [Nat.sub_zero] at h5
            subst h5
            split at h
            · rename_i c e' lk hrow
              split at h
              · rename_i hee
                have hee' : e' = e := Nat.eq_of_beq_eq_true hee
                subst hee'
                split at h
                · rename_i old hold
                  obtain ⟨cb', arr, fz, vs, rs, hg, q1, q2, q3, q4, q5, _⟩ := hH.row hrow
                  rw [h1] at q1; cases q1
                  obtain ⟨o1, o2⟩ := Chunk.part_conc q4 hold
                  simp only [List.drop_zero, Nat.zero_add] at o1 o2
                  have o2' : len * (z + 1) ≤ vs.length := o2
                  have hol : (vs.take (len * (z + 1))).length = len * (z + 1) := by rw [List.length_take]; omega
                  have o1' : concC ρ old = some (vs.take (len * (z + 1))) := o1
                  obtain ⟨zz, hz1, hz2⟩ := q3.size rfl
                  rw [hsize] at hz1
                  have hzz : zz = z := by simpa using hz1.symm
                  subst hzz
                  obtain ⟨r, u1, rfl, rfl⟩ := unsure_eq h
                  obtain ⟨u2, u3⟩ := Chunk.asRow_conc (Chunk.cat_conc o1' hx) u1
                  have hkold : old.isBytes = byteT P e' := by rw [Chunk.part_isBytes hold]; exact q3.kind
                  have hfree := hH.free_next
                  have hcapb : (ρ.ext H.next cb (ρ.cap b)).cap H.next = ρ.cap b := Env.ext_cap _ _ _ _ (ρ.ok b)
                  have hneed : len + (m' + 1) ≤ 17592186044416 := by
                    simp only [capBound] at hfit'
                    exact Nat.le_trans (Nat.le_mul_of_pos_right _ (Nat.succ_pos y)) hfit'
                  have hbn : b ≠ H.next := by have := hH.fresh _ _ h1; omega
                  by_cases hroom : len + (m' + 1) ≤ ρ.cap b
                  · have hspace : len * (zz + 1) + xs.length ≤ arr.size := by
                      rw [hm, ← Nat.add_mul, hz2]; exact Nat.mul_le_mul_right _ hroom
                    have hst := run_store_row (P := P) (o := len * (zz + 1)) xs 0 arr w q2 (by omega) (concC_one hx) q3.free
                    simp only [Nat.add_zero] at hst
                    have hr := run_app_room (ty := ty) (a := ⟨cb, 0, none⟩) ht hi hz ha hroom (w' := _) (by rw [addr_add, hsz, Nat.zero_add]; exact hst)
                    have hlist : (arr.toList.take (len * (zz + 1)) ++ xs ++ arr.toList.drop (len * (zz + 1) + xs.length)) = (vs.take (len * (zz + 1)) ++ xs) ++ arr.toList.drop (len * (zz + 1) + xs.length) := by
                      rw [q5, List.take_append_of_le_length o2']
                    have hlen : (arr.toList.take (len * (zz + 1)) ++ xs ++ arr.toList.drop (len * (zz + 1) + xs.length)).length = arr.size := by
                      rw [List.length_append, List.length_append, List.length_take, List.length_drop, Array.length_toList]; omega
                    have hle' := Env.le_ext ρ H.next cb (ρ.cap b) hfree
                    refine ⟨ρ.ext H.next cb (ρ.cap b), _, _, hr, pair_step hH hg h1 hle' (by simp) (fun q hq => Env.ext_other _ _ _ hq) (.inl rfl) (by simp) (setRow_heap w cb arr _ e' fz q2) (setRow_heap w cb arr _ e' fz q2)
                      (fun q _ hq => setRow_other w cb q _ hq) (.setRow w cb _) ?_ ?_, ?_⟩
                    · refine ⟨_, fz, rfl, ⟨⟨_, concC_mono hle' o1', fun hh => (by cases hh), fun _ => ⟨xs ++ arr.toList.drop (len * (zz + 1) + xs.length), ?_⟩⟩, fun _ => ⟨zz, hsize, ?_⟩, hkold, q3.plain, ?_, q3.ord⟩⟩
                      · simp only [hlist, List.append_assoc]
                      · rw [List.size_toArray, hlen, (hle' _ _ h1).2, hz2]
                      · intro off' ho'
                        rw [List.size_toArray, hlen] at ho'
                        exact q3.free off' ho'
                    · refine ⟨_, fz, rfl, ⟨⟨_, concC_mono hle' u2, fun hh => (by cases hh), fun _ => ⟨arr.toList.drop (len * (zz + 1) + xs.length), ?_⟩⟩, fun _ => ⟨zz, hsize, ?_⟩, u3, q3.plain, ?_, q3.ord⟩⟩
                      · simp only [hlist]
                      · rw [List.size_toArray, hlen, hcapb, hz2]
                      · intro off' ho'
                        rw [List.size_toArray, hlen] at ho'
                        exact q3.free off' ho'
                    · show (AV.slice H.next 0 (len + (m' + 1)) (.rest 0)).conc _ = _
                      simp [AV.conc, hroom, hcapb]
                  · have hfo : ∀ w', w'.heap = w.heap → (Builtin.firstCells i.size len (.slice (some ⟨cb, 0, none⟩) len (ρ.cap b))).run P w' = .ok (vs.take (len * (zz + 1))).toArray w' := by
                      intro w' hw'
                      simp only [Builtin.firstCells, hsz]
                      have := run_load_part (P := P) (w := w') (cb := cb) (off := 0) (xs := vs.take (len * (zz + 1))) (fun j v hj => by
                        rw [cell_of w' (by rw [hw']; exact q2), q5]
                        rw [List.getElem?_take] at hj
                        split at hj
                        · rw [Nat.zero_add, List.getElem?_append_left (by rw [List.getElem?_eq_some_iff] at hj; exact hj.1)]; exact hj
                        · cases hj)
                      rw [hol] at this
                      exact this
                    have hr := run_app_grow (ty := ty) (base := some ⟨cb, 0, none⟩) (olds := vs.take (len * (zz + 1))) (sLen := len) (sCap := ρ.cap b) ht hi hz ha (by omega) (by omega) (by rw [hby]; exact hfit') hfo
                    have hgc : len + (m' + 1) ≤ grownCap w (len + (m' + 1)) (ρ.cap b) e' := grownCap_ge _ _ _ _
                    have hle' := Env.le_ext ρ H.next w.heap.size (grownCap w (len + (m' + 1)) (ρ.cap b) e') hfree
                    have hcap2 := Env.ext_cap ρ H.next w.heap.size _ (grownCap_bound (w := w) (old := ρ.cap b) (e := e') hneed)
                    have hcblt : cb < w.heap.size := (Array.getElem?_eq_some_iff.1 q2).1
                    refine ⟨ρ.ext H.next w.heap.size (grownCap w (len + (m' + 1)) (ρ.cap b) e'), _, _, hr, pair_step (objn := .cells ((vs.take (len * (zz + 1))).toArray ++ (xs.toArray ++ Builtin.zeroCells zv.cells (grownCap w (len + (m' + 1)) (ρ.cap b) e' - (len + (m' + 1))))) e')
                      hH hg h1 hle' (by simp) (fun q hq => Env.ext_other _ _ _ hq) (.inr (Nat.le_refl _)) (by simp) (obj := .cells arr e' fz) (by rw [heap_alloc_old _ _ _ (by simpa using hcblt)]; exact q2) (heap_alloc_new _ _)
                      (fun q hq _ => by rw [heap_alloc_old _ _ _ (by simpa using hq)]; rfl) ⟨rfl, rfl, rfl⟩ ?_ ?_, ?_⟩
                    · refine ⟨arr, fz, rfl, ⟨⟨_, concC_mono hle' o1', fun hh => (by cases hh), fun _ => ⟨vs.drop (len * (zz + 1)) ++ rs, ?_⟩⟩, fun _ => ⟨zz, hsize, ?_⟩, hkold, q3.plain, q3.free, q3.ord⟩⟩
                      · rw [q5, ← List.append_assoc, List.take_append_drop]
                      · rw [(hle' _ _ h1).2, hz2]
                    · refine open_row (z := zz) (n := len + (m' + 1)) (cap := grownCap w (len + (m' + 1)) (ρ.cap b) e') (vs := vs.take (len * (zz + 1)) ++ xs) hcap2 hsize hzs (concC_mono hle' u2) u3 ?_ hgc _ ?_
                      · rw [List.length_append, hol, hm, ← Nat.add_mul]
                      · simp
                    · show (AV.slice H.next 0 (len + (m' + 1)) (.rest 0)).conc _ = _
                      simp [AV.conc, hgc, hcap2]
                · cases h
              · cases h
            · cases h
end
end Go.Proofs.YtpmildboffolkaaGreat.Abs

namespace Go.Proofs.YtpmildboffolkaaGreat.Abs
variable {P : Program} {ρ : Env} {H : AHeap} {w : World}

theorem zero_info {e : Nat} {zv : Value} {i : TypeInfo} (hi : P.info? e = some i) (h : ∀ w, (zeroValue e).run P w = .ok zv w) (w : World) : i.zero = some zv := by
  have := h w
  simp only [zeroValue, typeInfo, Sem.run_bind, run_program, Result.andThen, hi, Sem.run_pure] at this
  cases hq : i.zero with
  | none => simp [hq] at this
  | some y => simpa [hq] using this

theorem appendC_sound (hH : HRel P ρ H w) {st xt ty : Nat} {s x v : AV} {cs cx : Value} {H' : AHeap} (hs : s.conc ρ = some cs) (hx : x.conc ρ = some cx) (h : (appendC P st xt).run H s x = .ok v H') :
    Did P ρ H w (Builtin.append_ #[st, xt] ty #[cs, cx]) v H' := by
  unfold appendC at h
  split at h
  · rename_i e he
    split at h
    · rename_i z y hz hy
      split at h
      · cases h
      · rename_i c1 hc1
        obtain ⟨zv, z1, z2, z3, z4, z5⟩ := zeroChunk_sound (ρ := ρ) hc1
        obtain ⟨i, hi, hsz⟩ := sizeT_info hz
        have hzi := zero_info hi z1 w
        have hzs : zv.cells.size = z + 1 := by rw [hz] at z2; exact (Option.some.inj z2).symm
        have hby : i.bytes = y + 1 := by simpa [bytesT, hi] using hy
        have ht := sliT_eq he
        split at h
        · cases h
        rename_i d hd
        split at h
        · rename_i kn hk
          simp only [] at h
          split at h
          · rename_i n hn
            split at h
            · rename_i hle
              have hle' : n ≤ 1000000 := Nat.le_of_ble_eq_true hle
              split at h
              · rename_i zs hzs'
                obtain ⟨k, rfl⟩ := asNat_eq hn
                cases hx
                obtain ⟨zv', y1, y2, y3, y4, y5⟩ := zeroChunk_sound (ρ := ρ) hzs'
                have : zv' = zv := by
                  have e1 := zero_info hi y1 w
                  rw [hzi] at e1; exact (Option.some.inj e1).symm
                subst this
                have hkn : P.underlying xt = some (.int kn) := by rw [hd, intD_eq hk]
                have hlen : (List.replicate n zv'.cells.toList).flatten.length = n * (z + 1) := by simp [hzs]
                -- how many bytes that are: known where it matters
                by_cases hbig : n * i.bytes ≤ 281474976710656
                · refine appendV_sound hH ht hi hzi hsz hby hzs hs y3 hlen (.inr ⟨kn, k, hkn, rfl, hle', hbig, ?_⟩) h
                  rcases Nat.eq_zero_or_pos n with h0 | h0
                  · left; exact ⟨h0, by subst h0; simp⟩
                  · right; exact ⟨h0, by omega, by rw [zeroCells_list]⟩
                · exfalso
                  have hn0 : n ≠ 0 := by intro e0; subst e0; simp at hbig
                  obtain ⟨n', rfl⟩ := Nat.exists_eq_succ_of_ne_zero hn0
                  rw [hby] at hbig
                  unfold appendV at h
                  split at h
                  · split at h
                    · split at h
                      · rename_i h00; cases h00
                      · rename_i n'' h00
                        split at h
                        · rename_i hb
                          have hb' : (n' + 1) * (y + 1) ≤ capBound := Nat.le_of_ble_eq_true hb
                          simp only [capBound] at hb'
                          exact hbig (Nat.le_trans hb' (by decide))
                        · cases h
                    · split at h
                      · rename_i h00 _; cases h00
                      · cases h
                  · rename_i b off len cap _
                    split at h
                    · rename_i h00; cases h00
                    · rename_i n'' h00
                      split at h
                      · cases h
                      · rename_i hb
                        have hb' : (len + (n' + 1)) * (y + 1) ≤ capBound := Nat.le_of_ble_eq_true hb
                        simp only [capBound] at hb'
                        rw [Nat.add_mul] at hb'
                        have e3 : (n' + 1) * (y + 1) ≤ 17592186044416 := by omega
                        exact hbig (Nat.le_trans e3 (by decide))
              · cases h
            · cases h
          · cases h
        · rename_i hk
          simp only [] at h
          split at h
          · rename_i n hn
            split at h
            · rename_i c hc
              obtain ⟨xs, f1, f2, f3⟩ := firstOf_sound hH hx hc
              have f2' : xs.length = n * (z + 1) := f2
              refine appendV_sound hH ht hi hzi hsz hby hzs hs f1 f2' (.inl ⟨d, hd, hk, fun w' => lenOf_sound hx hn, fun w' hw' => ?_⟩) h
              obtain ⟨xs', g1, g2, g3⟩ := firstOf_sound (hH.heap_eq hw') hx hc
              rw [f1] at g1; cases g1
              rw [hsz]
              exact g3
            · cases h
          · cases h
    · cases h
  · cases h

theorem isSame_eq {src dst e : Nat} (h : isSame P src dst = some e) : src = dst ∧ P.underlying src = some (.slice e) ∧ P.underlying e = some (.int .u8) ∧ byteT P e = true := by
  unfold isSame at h
  split at h
  · rename_i hb
    split at h
    · rename_i e' he
      split at h
      · rename_i hu
        cases h
        exact ⟨Nat.eq_of_beq_eq_true hb, sliT_eq he, u8T_eq hu, u8_byteT hu⟩
      · cases h
    · cases h
  · cases h

theorem sameV_sound (hH : HRel P ρ H w) {src dst e : Nat} {x v : AV} {cx : Value} {H' : AHeap} (hx : x.conc ρ = some cx) (hs : isSame P src dst = some e) (h : sameV H e x = .ok v H') : Did P ρ H w (convert src dst cx) v H' := by
  obtain ⟨rfl, hu, hu8, hbt⟩ := isSame_eq hs
  unfold sameV at h
  split at h
  · rename_i b o l cap hsl
    have hx0 := hx
    rw [asSlice_eq hsl] at hx
    obtain ⟨cb, n, k1, rfl, k2, k3⟩ := conc_slice hx
    split at h
    · rename_i c el op hrow
      split at h
      · rename_i hb
        have hel : el = e := Nat.eq_of_beq_eq_true hb
        subst hel
        cases h
        obtain ⟨cb', arr, fz, vs, rs, hg, q1, q2, q3, q4, q5, q6⟩ := hH.row hrow
        rw [k1] at q1; cases q1
        obtain ⟨fz', hfz, hfree, hord⟩ : ∃ fz' : Nat × Nat, (if fz.1 == fz.2 then ((arr.size, arr.size + 1) : Nat × Nat) else (min fz.1 arr.size, max fz.2 (arr.size + 1))) = fz' ∧ (∀ off, off < arr.size → ¬ (fz'.1 ≤ off ∧ off < fz'.2)) ∧ fz'.1 ≤ fz'.2 := by
          refine ⟨_, rfl, ?_, ?_⟩
          · intro off ho
            by_cases e0 : fz.1 = fz.2
            · have : (fz.1 == fz.2) = true := by simpa using e0
              rw [this]
              simp only [if_true]
              omega
            · have e1 : (fz.1 == fz.2) = false := by simpa using e0
              rw [e1]
              simp only [Bool.false_eq_true, if_false]
              have h1 := q3.ord
              have h2 : arr.size ≤ fz.1 := by
                rcases Nat.lt_or_ge fz.1 arr.size with hlt | hge
                · exact absurd ⟨Nat.le_refl _, by omega⟩ (q3.free fz.1 hlt)
                · exact hge
              omega
          · by_cases e0 : fz.1 = fz.2
            · have : (fz.1 == fz.2) = true := by simpa using e0
              rw [this]
              simp only [if_true]
              omega
            · have e1 : (fz.1 == fz.2) = false := by simpa using e0
              rw [e1]
              simp only [Bool.false_eq_true, if_false]
              omega
        have hrun : (convert src src (.slice (some ⟨cb, o, none⟩) l n)).run P w = .ok (.slice (some ⟨cb, o, none⟩) l n) (w.freeze ⟨cb, arr.size, none⟩ 1) := by
          simp only [convert, Sem.run_bind, run_underlying hu, run_underlying hu8, Result.andThen, markStringish, run_shape, World.shape?, q2, run_freeze, Sem.run_pure, beq_self_eq_true]
        have hlt : cb < w.heap.size := (Array.getElem?_eq_some_iff.1 q2).1
        have hat : (w.freeze ⟨cb, arr.size, none⟩ 1).heap[cb]? = some (.cells arr el fz') := by
          simp only [World.freeze, Nat.one_ne_zero, if_false]
          rw [Array.getElem?_modify, if_pos rfl, q2]
          simp only [Option.map_some, Option.some.injEq]
          rw [← hfz]
        have hot : ∀ r, r ≠ cb → (w.freeze ⟨cb, arr.size, none⟩ 1).heap[r]? = w.heap[r]? := by
          intro r hr
          simp only [World.freeze, Nat.one_ne_zero, if_false]
          rw [Array.getElem?_modify, if_neg (fun e => hr e.symm)]
        refine ⟨ρ, _, _, hrun, put_step hH hg k1 (by simp [World.freeze]) hat hot ⟨by simp [World.freeze], by simp [World.freeze], by simp [World.freeze]⟩ ?_, hx0⟩
        exact ⟨arr, fz', rfl, ⟨q3.cells, q3.size, q3.kind, fun hh => (by rw [hbt] at hh; cases hh), hfree, hord⟩⟩
      · cases h
    · cases h
  · cases h
end Go.Proofs.YtpmildboffolkaaGreat.Abs
