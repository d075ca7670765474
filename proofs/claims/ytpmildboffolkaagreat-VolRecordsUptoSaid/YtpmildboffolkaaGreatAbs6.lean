/-
  slices.Insert, slices.Equal, codec.Crc, byte search, checkpoints, maps in any order and closed calls: what they come to is sound; the conditions stand in each theorem.
-/
import Derived.Test.YtpmildboffolkaaGreatAbs5
import Derived.Shelf.Spec.SlicesInsertGrow
import Derived.Shelf.SlicesE.Equal
import Derived.Test.YtpmildboffolkaaGreatAbs4
import Derived.Test.YtpmildboffolkaaGreatAbs1
import Derived.Below
import Derived.Shelf.Strings.IndexAnyAll
import Derived.Test.YtpmildboffolkaaGreatAbs2
set_option linter.unusedVariables false
set_option linter.unusedSimpArgs false
namespace Go.Proofs.YtpmildboffolkaaGreat.Abs
open Go.Shelf Go.Proofs
variable {P : Program}

/-! ## slices.Insert of strings -/
theorem setCells_row {cb e : Nat} {fz : Nat × Nat} : ∀ (vs : List Value) (o : Nat) (arr : Array Value) (w : World), w.heap[cb]? = some (.cells arr e fz) → o + vs.length ≤ arr.size →
    w.setCells cb o vs = w.setRow cb (arr.toList.take o ++ vs ++ arr.toList.drop (o + vs.length)).toArray
  | [], o, arr, w, hg, hl => by
    simp only [World.setCells, List.append_nil, List.length_nil, Nat.add_zero, List.take_append_drop, Array.toArray_toList]
    rw [setRow_self w cb arr e fz hg]
  | v :: r, o, arr, w, hg, hl => by
    rw [World.setCells, setCell_eq_setRow w cb o arr e fz v hg]
    rw [setCells_row r (o + 1) (arr.setIfInBounds o v) _ (setRow_heap w cb arr _ e fz hg) (by simp at hl ⊢; omega), setRow_setRow]
    congr 2
    have e1 := list_seg_step arr.toList o v r (by simp at hl ⊢; omega)
    simpa [Array.toList_setIfInBounds, Nat.add_assoc] using e1

theorem drew_heap (w : World) : w.drew.heap = w.heap := rfl

theorem run_enter {f : Nat} {fn : Func} {c : Code} (hfn : P.funcs[f]? = some fn) (hn : (fn.name == "runtime.NumGoroutine") = false) (hb : fn.body = some c) (args : Array Value) (w : World) : (callFunc f args).run P w = .ok (.enter f args) w := by
  have hn' : fn.name ≠ "runtime.NumGoroutine" := by simpa using hn
  simp [callFunc, hfn, hn', hb, Result.andThen]

theorem insert_ok {rn : Ren} (L : Lays2.n22 P rn) : ExtOk P (rn.f 22) (hookInsert P (rn.f 22)) := by
  intro args H v H' h ρ w cargs hH hargs
  have henter := run_enter L.f22 (by rfl) (c := (Body2.n22 rn).body.get rfl) (by rfl) cargs.toArray w
  rw [henter]
  show CallsIn _ _ _ _ _ _ _
  rw [callsIn_wide]
  have hh : insertHook P (rn.t 24) args H = .ok v H' := by
    unfold hookInsert at h
    rw [L.f22] at h
    exact h
  clear h henter
  unfold insertHook at hh
  split at hh
  · rename_i s i v0
    split at hh
    · rename_i e b n b' o' m vcap hst hs hv
      have he : e = rn.t 9 := by
        have := sliT_eq hst
        rw [L.t24] at this
        cases this; rfl
      subst he
      split at hh
      · rename_i hc
        simp only [Bool.and_eq_true, Bool.not_eq_true'] at hc
        obtain ⟨c1, c2, c3, c4, c5⟩ := hc
        have hi : i < n := by simpa [Nat.blt_eq] using c1
        have hm : 0 < m := by simpa [Nat.blt_eq] using c2
        have hnm : n + m ≤ 1000000 := Nat.le_of_ble_eq_true c3
        have hbb : b ≠ b' := by intro e'; subst e'; simp at c4
        split at hh
        · rename_i c a1 a2 q0 e' lk hrc hra1 hra2 hrow
          split at hh
          · rename_i hee
            have hee' : rn.t 9 = e' := Nat.eq_of_beq_eq_true hee
            subst hee'
            obtain ⟨x, xs, h1, h2, rfl⟩ := concL_cons.1 hargs
            obtain ⟨y, ys, h3, h4, rfl⟩ := concL_cons.1 h2
            obtain ⟨z, zs, h5, h6, rfl⟩ := concL_cons.1 h4
            simp [AV.concL] at h6
            subst h6
            cases h3
            rw [asSlice_eq hs] at h1
            rw [asSlice_eq hv] at h5
            obtain ⟨cb, cap, k1, rfl, k2, k3⟩ := conc_slice h1
            obtain ⟨cv, vc, l1, rfl, l2, l3⟩ := conc_slice h5
            obtain ⟨k4, k5⟩ := k3
            simp only [Nat.sub_zero] at k5
            subst k5
            -- the rows
            obtain ⟨cb0, arr, fz, vs, rs, hg, q1, q2, q3, q4, q5, _⟩ := hH.row hrow
            rw [k1] at q1; cases q1
            have hbyte : byteT P (rn.t 9) = false := by simp [byteT, u8T, L.t9, u8D, arrD]
            have hfz := q3.plain hbyte
            subst hfz
            have hsz1 : sizeT P (rn.t 9) = some 1 := by
              have := L.i9
              cases hi9 : P.info? (rn.t 9) with
              | none => rw [hi9] at this; cases this
              | some i0 => rw [hi9] at this; simp at this; simp [sizeT, hi9, this.2.1]
            obtain ⟨zz, hz1, hz2⟩ := q3.size rfl
            rw [hsz1] at hz1
            have hzz : zz = 0 := by simpa using hz1.symm
            subst hzz
            simp only [Nat.zero_add, Nat.mul_one] at hz2
            -- v's row
            unfold loneRow at c5
            split at c5
            · rename_i ls el op hgv
              obtain ⟨cv', ov, a1', a2', varr, vfz, rfl, ra⟩ := hH.obj b' _ hgv
              rw [l1] at a1'; cases a1'
              have hcc : cv ≠ cb := by
                intro e'; subst e'
                rcases hH.sep _ _ _ _ _ hgv hg l1 k1 with e1 | ⟨e1, _⟩
                · exact hbb e1.symm
                · cases e1
              have hvfz : vfz = (0, 0) := ra.plain (by rw [← ra.kind]; rfl)
              subst hvfz
              obtain ⟨cv2, xs, x1, x2, x3, x4⟩ := readPart_sound hH hrc
              rw [l1] at x1; cases x1
              obtain ⟨cb2, p1, y1, y2, y3, y4⟩ := readPart_sound hH hra1
              rw [k1] at y1; cases y1
              obtain ⟨cb3, p2, z1, z2, z3, z4⟩ := readPart_sound hH hra2
              rw [k1] at z1; cases z1
              have x3' : xs.length = m := x3
              have y3' : p1.length = i := y3
              have z3' : p2.length = n - i := z3
              have hpl : (p1 ++ p2).length = n := by rw [List.length_append, y3', z3']; omega
              have hcs : ∀ j v, (p1 ++ p2)[j]? = some v → w.cell? ⟨cb, 0 + j, none⟩ = some v := by
                intro j v hj
                by_cases hji : j < i
                · rw [List.getElem?_append_left (by omega)] at hj
                  exact y4 j v hj
                · rw [List.getElem?_append_right (by omega), y3'] at hj
                  have := z4 (j - i) v hj
                  rw [show i + (j - i) = 0 + j by omega] at this
                  exact this
              have hvs : ∀ j v, xs[j]? = some v → w.cell? ⟨cv, o' + j, none⟩ = some v := x4
              have h1c : ∀ v ∈ p1 ++ p2, v.oneCell' = true := by
                intro v hv
                rcases List.mem_append.1 hv with hv | hv
                · exact concC_one y2 v hv
                · exact concC_one z2 v hv
              have h1v : ∀ v ∈ xs, v.oneCell' = true := concC_one x2
              -- what the summary tells
              obtain ⟨r, u1, rfl, rfl⟩ := unsure_eq hh
              obtain ⟨u2, u3⟩ := Chunk.asRow_conc (Chunk.cat_conc (Chunk.cat_conc y2 x2) z2) u1
              have hfree := hH.free_next
              have hk1 : a1.isBytes = byteT P (rn.t 9) := by
                have hp : readPart H b 0 i = some a1 := hra1
                unfold readPart at hp
                rw [hrow] at hp
                rw [Chunk.part_isBytes hp]; exact q3.kind
              have hcap63 := ρ.ok b
              have hpre : arr.toList.take n = p1 ++ p2 := by
                apply List.ext_getElem?
                intro j
                rw [List.getElem?_take]
                split
                · rename_i hj
                  have hlt : j < (p1 ++ p2).length := by omega
                  have := hcs j _ (List.getElem?_eq_getElem hlt)
                  rw [cell_of w q2, Nat.zero_add] at this
                  rw [this, List.getElem?_eq_getElem hlt]
                · rename_i hj
                  rw [List.getElem?_eq_none (by omega)]
              have hp1 : arr.toList.take i = p1 := by
                have e0 : arr.toList.take i = (arr.toList.take n).take i := by rw [List.take_take, Nat.min_eq_left (by omega)]
                rw [e0, hpre, List.take_append_of_le_length (by omega), List.take_of_length_le (by omega)]
              by_cases hroom : n + m ≤ ρ.cap b
              · have hC := Any2.slices_Insert_string_shift L cb 0 n (ρ.cap b) i cv o' m vc (p1 ++ p2) xs w hi hm hroom hcap63 hcc hpl x3' hcs
                  (fun j hj => by rw [cell_of w q2, List.getElem?_eq_getElem (by rw [Array.length_toList, hz2]; omega)]; rfl) (fun j hj => by simp [World.frozen?, q2]) hvs h1c h1v el (rn.t 9) varr.size arr.size
                  (by simp [World.shape?, a2']) (by simp [World.shape?, q2]) (by rw [hz2]; omega) (by simp [World.frozen?, a2']) (by simp [World.frozen?, a2'])
                refine Calls.mono hC ?_
                rintro e2 w2 ⟨rfl, rfl⟩
                refine ⟨_, rfl, ?_⟩
                have hdrop : (p1 ++ p2).drop i = p2 := by rw [List.drop_append_of_le_length (by omega), List.drop_of_length_le (by omega), List.nil_append]
                rw [hdrop]
                simp only [Nat.zero_add]
                rw [setCells_row p2 (i + m) arr w.drew q2 (by rw [hz2, z3']; omega)]
                rw [setCells_row xs i _ _ (setRow_heap w.drew cb arr _ (rn.t 9) (0, 0) q2) (by
                  simp only [List.size_toArray, List.length_append, List.length_take, List.length_drop, Array.length_toList]; omega)]
                rw [setRow_setRow]
                generalize hA : (List.take i (List.take (i + m) arr.toList ++ p2 ++ List.drop (i + m + p2.length) arr.toList).toArray.toList ++ xs ++
                  List.drop (i + xs.length) (List.take (i + m) arr.toList ++ p2 ++ List.drop (i + m + p2.length) arr.toList).toArray.toList) = A
                have hAeq : A = p1 ++ xs ++ p2 ++ arr.toList.drop (n + m) := by
                  rw [← hA]
                  have e1 : i ≤ (arr.toList.take (i + m)).length := by rw [List.length_take, Array.length_toList]; omega
                  have e2 : (arr.toList.take (i + m)).length = i + m := by rw [List.length_take, Array.length_toList]; omega
                  simp only [List.append_assoc]
                  rw [List.take_append_of_le_length e1, List.take_take, Nat.min_eq_left (by omega), hp1, x3', List.drop_append_of_le_length (by omega), List.drop_of_length_le (by omega), List.nil_append, z3']
                  rw [show i + m + (n - i) = n + m by omega]
                have hAl : A.length = arr.size := by
                  rw [hAeq]; simp only [List.length_append, List.length_drop, Array.length_toList, y3', x3', z3']; omega
                have hcapb : (ρ.ext H.next cb (ρ.cap b)).cap H.next = ρ.cap b := Env.ext_cap _ _ _ _ hcap63
                have hle' := Env.le_ext ρ H.next cb (ρ.cap b) hfree
                refine ⟨ρ.ext H.next cb (ρ.cap b), pair_step hH hg k1 hle' (by simp) (fun q hq => Env.ext_other _ _ _ hq) (.inl rfl) (by simp [drew_heap]) (setRow_heap w.drew cb arr _ (rn.t 9) (0, 0) q2) (setRow_heap w.drew cb arr _ (rn.t 9) (0, 0) q2)
                      (fun q _ hq => by rw [setRow_other w.drew cb q _ hq]; rfl) ⟨rfl, rfl, rfl⟩ ?_ ?_, ?_⟩
                · refine ⟨_, (0, 0), rfl, ⟨⟨_, concC_mono hle' y2, fun hh => (by cases hh), fun _ => ⟨xs ++ p2 ++ arr.toList.drop (n + m), ?_⟩⟩, fun _ => ⟨0, hsz1, ?_⟩, hk1, fun _ => rfl, ?_, Nat.le_refl _⟩⟩
                  · rw [hAeq]; simp only [List.append_assoc]
                  · rw [List.size_toArray, hAl, (hle' _ _ k1).2, hz2]; simp
                  · intro off' ho' hh'; simp at hh'
                · refine ⟨_, (0, 0), rfl, ⟨⟨_, concC_mono hle' u2, fun hh => (by cases hh), fun _ => ⟨arr.toList.drop (n + m), ?_⟩⟩, fun _ => ⟨0, hsz1, ?_⟩, by rw [u3, hbyte], fun _ => rfl, ?_, Nat.le_refl _⟩⟩
                  · rw [hAeq]
                  · rw [List.size_toArray, hAl, hcapb, hz2]; simp
                  · intro off' ho' hh'; simp at hh'
                · show (AV.slice H.next 0 (n + m) (.rest 0)).conc _ = _
                  simp [AV.conc, hroom, hcapb]
              · have hC := Any2.slices_Insert_string_grow L cb 0 n (ρ.cap b) i cv o' m vc (p1 ++ p2) xs w hi hm k2 (by omega) (by omega) hpl x3' hcs hvs h1c h1v
                refine Calls.mono hC ?_
                rintro e2 w2 ⟨rfl, rfl⟩
                refine ⟨_, rfl, ?_⟩
                have hdrop : (p1 ++ p2).drop i = p2 := by rw [List.drop_append_of_le_length (by omega), List.drop_of_length_le (by omega), List.nil_append]
                have htake : (p1 ++ p2).take i = p1 := by rw [List.take_append_of_le_length (by omega), List.take_of_length_le (by omega)]
                rw [hdrop, htake]
                have hgc : n + m ≤ grownCap w (n + m) (ρ.cap b) (rn.t 9) := grownCap_ge _ _ _ _
                have hcap2 := Env.ext_cap ρ H.next w.heap.size _ (grownCap_bound (w := w) (need := n + m) (old := ρ.cap b) (e := rn.t 9) (by omega))
                generalize grownCap w (n + m) (ρ.cap b) (rn.t 9) = G at hgc hcap2 ⊢
                have hle' := Env.le_ext ρ H.next w.heap.size G hfree
                have hzc : ∀ k, (Builtin.zeroCells (Value.string ⟨#[]⟩).cells k).toList = List.replicate k (Value.string ⟨#[]⟩) := by
                  intro k
                  simp only [Builtin.zeroCells, Value.cells]
                  apply List.ext_getElem
                  · simp
                  · intro j h1 h2; simp [Nat.mod_one]
                generalize hR : (p1.toArray ++ Builtin.zeroCells (Value.string ⟨#[]⟩).cells (n + m - i) ++ Builtin.zeroCells (Value.string ⟨#[]⟩).cells (G - (n + m))) = R
                have hRl : R.toList = p1 ++ (List.replicate (n + m - i) (Value.string ⟨#[]⟩) ++ List.replicate (G - (n + m)) (Value.string ⟨#[]⟩)) := by
                  rw [← hR]; simp only [Array.toList_append, hzc, List.append_assoc]
                have hRs : R.size = G := by
                  rw [← Array.length_toList, hRl]; simp only [List.length_append, List.length_replicate, y3']; omega
                have hnew : (w.alloc (.cells R (rn.t 9))).drew.heap[w.heap.size]? = some (.cells R (rn.t 9) (0, 0)) := by
                  rw [drew_heap]; exact heap_alloc_new _ _
                rw [setCells_row xs i R _ hnew (by rw [hRs, x3']; omega)]
                have hnew2 : ((w.alloc (.cells R (rn.t 9))).drew.setRow w.heap.size (R.toList.take i ++ xs ++ R.toList.drop (i + xs.length)).toArray).drew.heap[w.heap.size]? = some (.cells (R.toList.take i ++ xs ++ R.toList.drop (i + xs.length)).toArray (rn.t 9) (0, 0)) := by
                  rw [drew_heap]; exact setRow_heap _ _ _ _ _ _ hnew
                rw [setCells_row p2 (i + m) _ _ hnew2 (by
                  simp only [List.size_toArray, List.length_append, List.length_take, List.length_drop, Array.length_toList, hRs, x3', z3']; omega)]
                have hT : R.toList.take i = p1 := by rw [hRl, List.take_append_of_le_length (by omega), List.take_of_length_le (by omega)]
                have hD : R.toList.drop (i + m) = List.replicate (n - i) (Value.string ⟨#[]⟩) ++ List.replicate (G - (n + m)) (Value.string ⟨#[]⟩) := by
                  rw [hRl, List.drop_append, List.drop_of_length_le (by omega), List.nil_append, y3', List.drop_append_of_le_length (by rw [List.length_replicate]; omega), List.drop_replicate]
                  congr 2; omega
                simp only [hT, x3', hD, z3', List.toList_toArray]
                have hF : List.take (i + m) (p1 ++ xs ++ (List.replicate (n - i) (Value.string ⟨#[]⟩) ++ List.replicate (G - (n + m)) (Value.string ⟨#[]⟩))) ++ p2 ++
                    List.drop (i + m + (n - i)) (p1 ++ xs ++ (List.replicate (n - i) (Value.string ⟨#[]⟩) ++ List.replicate (G - (n + m)) (Value.string ⟨#[]⟩))) = (p1 ++ xs ++ p2) ++ List.replicate (G - (n + m)) (Value.string ⟨#[]⟩) := by
                  have e1 : (p1 ++ xs).length = i + m := by rw [List.length_append, y3', x3']
                  rw [List.take_append_of_le_length (by omega), List.take_of_length_le (by omega)]
                  rw [List.drop_append, List.drop_of_length_le (by omega), List.nil_append, e1, List.drop_append, List.drop_of_length_le (by rw [List.length_replicate]; omega), List.nil_append, List.length_replicate]
                  rw [show i + m + (n - i) - (i + m) - (n - i) = 0 by omega, List.drop_zero]
                rw [hF]
                have hcblt : cb < w.heap.size := (Array.getElem?_eq_some_iff.1 q2).1
                refine ⟨ρ.ext H.next w.heap.size G, pair_step (obj := .cells arr (rn.t 9)) (objn := .cells ((p1 ++ xs ++ p2) ++ List.replicate (G - (n + m)) (Value.string ⟨#[]⟩)).toArray (rn.t 9))
                      hH hg k1 hle' (by simp) (fun q hq => Env.ext_other _ _ _ hq) (.inr (Nat.le_refl _)) ?_ ?_ ?_
                      (fun q hq _ => ?_) ⟨rfl, rfl, rfl⟩ ?_ ?_, ?_⟩
                · simp [drew_heap, World.setRow]
                · rw [setRow_other _ _ _ _ (by omega), drew_heap, setRow_other _ _ _ _ (by omega), drew_heap, heap_alloc_old _ _ hcblt]; exact q2
                · simp only [hT, x3', hD] at hnew2
                  exact setRow_heap _ _ _ _ _ _ hnew2
                · rw [setRow_other _ _ _ _ (by omega), drew_heap, setRow_other _ _ _ _ (by omega), drew_heap, heap_alloc_old _ _ hq]
                · refine ⟨arr, (0, 0), rfl, ⟨⟨_, concC_mono hle' y2, fun hh => (by cases hh), fun _ => ⟨arr.toList.drop i, ?_⟩⟩, fun _ => ⟨0, hsz1, ?_⟩, hk1, fun _ => rfl, ?_, Nat.le_refl _⟩⟩
                  · rw [← hp1, List.take_append_drop]
                  · rw [(hle' _ _ k1).2, hz2]; simp
                  · intro off' ho' hh'; simp at hh'
                · refine open_row (z := 0) (n := n + m) (cap := G) (zv := Value.string ⟨#[]⟩) (vs := p1 ++ xs ++ p2) hcap2 hsz1 (by rfl) (concC_mono hle' u2) (by rw [u3, hbyte]) ?_ hgc _ ?_
                  · simp only [List.length_append, y3', x3', z3']; omega
                  · rw [hzc]
                · show (AV.slice H.next 0 (n + m) (.rest 0)).conc _ = _
                  simp [AV.conc, hgc, hcap2]
            · cases c5
          · cases hh
        · cases hh
      · cases hh
    · cases hh
  · cases hh
end Go.Proofs.YtpmildboffolkaaGreat.Abs

namespace Go.Proofs.YtpmildboffolkaaGreat.Abs
open Go.Shelf Go.Proofs
variable {P : Program}

/-! ## slices.Equal of bytes -/
def encB (b : UInt8) : Value := .int .u8 (b.toNat : Int)
instance : Inhabited UInt8 := ⟨0⟩

theorem encB_neq (P : Program) (T : TypeId) : NeqAt P T encB (fun x y => x == y) := by
  refine ⟨fun x y w => ?_, fun op a b x y w => GuardAt.int P T .u8 op a b _ _ w⟩
  have h := (NeqAt.int P T .u8).1 (x.toNat : Int) (y.toNat : Int) w
  refine h.trans ?_
  congr 3
  by_cases e : x = y
  · subst e; simp
  · have : ¬ (x.toNat : Int) = (y.toNat : Int) := fun h => e (UInt8.toNat_inj.1 (Int.ofNat_inj.1 h))
    have h1 : (x == y) = false := by simpa using e
    have h2 : ((x.toNat : Int) == (y.toNat : Int)) = false := by simpa using this
    show ((x.toNat : Int) == (y.toNat : Int)) = (x == y)
    rw [h1, h2]

theorem allEq_beq : ∀ (xs ys : List UInt8), Lib.allEq (fun x y => x == y) xs ys = (xs == ys)
  | [], [] => rfl
  | [], _ :: _ => rfl
  | _ :: _, [] => rfl
  | x :: xs, y :: ys => by
    rw [Lib.allEq, allEq_beq xs ys]; rfl

theorem enters_run {f : Nat} (h : Enters P f) (args : Array Value) (w : World) : (callFunc f args).run P w = .ok (.enter f args) w := h args w

theorem equal_ok {rn : Ren} (L : SlLaysE.n33 P rn) : ExtOk P (rn.f 33) equalHook := by
  intro args H v H' h ρ w cargs hH hargs
  have hbody : (SlBodyN.n33 rn).body = some ((SlBodyN.n33 rn).body.get rfl) := rfl
  rw [enters_run (L.f33.enters hbody)]
  show CallsIn _ _ _ _ _ _ _
  rw [callsIn_wide]
  unfold equalHook at h
  split at h
  · rename_i b o n cap b' o' m cap'
    split at h
    · rename_i hc
      simp only [Bool.and_eq_true] at hc
      have hn : n ≤ capBound := Nat.le_of_ble_eq_true hc.1
      have hm : m ≤ capBound := Nat.le_of_ble_eq_true hc.2
      split at h
      · rename_i x y hx hy
        split at h
        · rename_i la a lb c
          cases h
          obtain ⟨x1, xs, h1, h2, rfl⟩ := concL_cons.1 hargs
          obtain ⟨y1, ys, h3, h4, rfl⟩ := concL_cons.1 h2
          simp [AV.concL] at h4
          subst h4
          obtain ⟨cb, cn, k1, rfl, _, _⟩ := conc_slice h1
          obtain ⟨cb', cn', l1, rfl, _, _⟩ := conc_slice h3
          obtain ⟨cb0, vs, g1, g2, g3, g4⟩ := readPart_sound hH hx
          rw [k1] at g1; cases g1
          obtain ⟨cb0', vs', j1, j2, j3, j4⟩ := readPart_sound hH hy
          rw [l1] at j1; cases j1
          obtain ⟨p1, rfl⟩ := concC_bytes.1 g2
          obtain ⟨p2, rfl⟩ := concC_bytes.1 j2
          have e1 : la = n := by simpa using g3
          have e2 : lb = m := by simpa using j3
          subst e1 e2
          have hC := AnyE.slices_Equal L encB (fun x y => x == y) (encB_neq P _) cb o la cn cb' o' lb cn' (bytesL la a) (bytesL lb c) w (by simp) (by simp)
            (Nat.le_trans hn (by decide)) (Nat.le_trans hm (by decide))
            (fun j hj => g4 j _ (by
              rw [List.getElem?_map, List.getElem?_eq_getElem hj]
              simp only [Option.map_some, Option.some.injEq]
              rw [getElem!_pos (bytesL la a) j hj]; rfl))
            (fun j hj => j4 j _ (by
              rw [List.getElem?_map, List.getElem?_eq_getElem hj]
              simp only [Option.map_some, Option.some.injEq]
              rw [getElem!_pos (bytesL lb c) j hj]; rfl))
          refine Calls.mono hC ?_
          rintro e2 w2 ⟨rfl, q, rfl⟩
          refine ⟨_, rfl, ρ, Step.heap_eq hH rfl ⟨rfl, rfl, rfl⟩, ?_⟩
          rw [allEq_beq, List.take_of_length_le (by simp), List.take_of_length_le (by simp)]
          show some _ = some _
          congr 2
          rw [Bool.eq_iff_iff]
          simp only [Bool.and_eq_true, beq_iff_eq]
          constructor
          · rintro ⟨i1, i2⟩
            have i1' := Nat.eq_of_beq_eq_true i1
            have i2' := Nat.eq_of_beq_eq_true i2
            subst i1' i2'; rfl
          · intro i
            obtain ⟨i1, i2⟩ := bytesL_inj p1 p2 i
            subst i1 i2
            simp
        · cases h
      · cases h
    · cases h
  · cases h
end Go.Proofs.YtpmildboffolkaaGreat.Abs

namespace Go.Proofs.YtpmildboffolkaaGreat.Abs
variable {P : Program} {K : Hooks}
theorem regionU_eq {kept nt : Nat} {ops : List Oper} {draw : Bool} (h : regOk ops draw = true) : regionU P K kept nt ops draw = regionC P K kept nt ops draw := by
  cases draw with
  | false => simp only [regOk] at h; simp only [regionU, regionC, h]
  | true => simp only [regOk] at h; simp only [regionU, regionC, h]
theorem codeU_eq {kept nt : Nat} : ∀ (c : Code), codeOkU c = true → codeU P K kept nt c = codeC P K kept nt c
  | .skip, _ => rfl
  | .label _, _ => rfl
  | .region _ ops d, h => by
    simp only [codeOkU] at h
    simp only [codeU, codeC]
    exact regionU_eq h
  | .seq a b, h => by
    simp only [codeOkU, Bool.and_eq_true] at h
    simp only [codeU, codeC, codeU_eq a h.1, codeU_eq b h.2]
  | .cond c a b, h => by
    simp only [codeOkU, Bool.and_eq_true] at h
    simp only [codeU, codeC, codeU_eq a h.1, codeU_eq b h.2]
  | .block _ b, h => by
    simp only [codeOkU] at h
    simp only [codeU, codeC, codeU_eq b h]
  | .loop b, h => by
    simp only [codeOkU] at h
    simp only [codeU, codeC, codeU_eq b h]
  | .rangeFunc .., _ => rfl
  | .exit _, _ => rfl
  | .ret, _ => rfl
  | .scope b, h => by
    simp only [codeOkU] at h
    simp only [codeU, codeC, codeU_eq b h]
  | .goto _, _ => rfl
  | .refuse _, _ => rfl

variable {F : Nat → Option Func}
theorem funcU_eq (hF : ∀ f fn, F f = some fn → P.funcs[f]? = some fn) (hU : ∀ f fn, F f = some fn → fnOkU fn = true) {R : Rec} {f : Nat} {args : List AV} {H : AHeap} {v : AV} {H' : AHeap}
    (h : (funcU P K F f).run R args H = .ok v H') : (funcC P K f).run R args H = .ok v H' := by
  unfold funcU at h
  split at h
  · rename_i fn hfn
    have h1 := hF f fn hfn
    have h2 := hU f fn hfn
    unfold funcC
    rw [h1]
    simp only []
    split at h
    · rename_i c hc
      simp only [fnOkU, hc] at h2
      rw [codeU_eq c h2] at h
      simp only [hc]
      exact h
    · cases h
  · cases h

theorem runU_ok (hK : HooksOk P K) (hdraw : ∀ R, RecOk P R → DrawOk P K R) (hN : NoGor P) (hF : ∀ f fn, F f = some fn → P.funcs[f]? = some fn) (hU : ∀ f fn, F f = some fn → fnOkU fn = true) : ∀ n, RecOk P (runU P K F n)
  | 0 => ⟨fun f args H v H' h => (by cases h), fun kept nt c l T H h => h.elim⟩
  | n + 1 => by
    have ih := runU_ok hK hdraw hN hF hU n
    refine ⟨?_, ?_⟩
    · intro f args H v H' h
      exact funcC_sound hK ih (hdraw _ ih) hN f args H v H' (funcU_eq hF hU h)
    · intro kept nt c l T H hg ρ w cl a hH hcl hT hd
      exact spec_all hK ih (hdraw _ ih) c (some l) (some cl) ρ H w T [] a _ hcl hH hT (by rw [hd]; trivial) rfl hg
end Go.Proofs.YtpmildboffolkaaGreat.Abs

namespace Go.Proofs.YtpmildboffolkaaGreat.Abs
variable {P : Program}

/-! ## Checkpoints -/
theorem beqO_eq {a b : Option Nat} (h : beqO a b = true) : a = b := by
  cases a <;> cases b <;> simp [beqO] at h
  · rfl
  · rw [h]
theorem beqB_eq {a b : Bool} (h : beqB a b = true) : a = b := by
  cases a <;> cases b <;> simp [beqB] at h <;> rfl
theorem Chunk.same_eq {a b : Chunk} (h : a.same b = true) : a = b := by
  cases a <;> cases b <;> simp [Chunk.same] at h
  · rw [AV.beqL_eq h]
  · rw [h.1, h.2]
theorem sameEs_eq : ∀ {l r : List (AV × AV × Nat)}, sameEs l r = true → l = r
  | [], [], _ => rfl
  | [], _ :: _, h => by simp [sameEs] at h
  | _ :: _, [], h => by simp [sameEs] at h
  | (k, v, n) :: l, (k', v', n') :: r, h => by
    simp only [sameEs, Bool.and_eq_true] at h
    rw [AV.beq_eq h.1, AV.beq_eq h.2.1, Nat.eq_of_beq_eq_true h.2.2.1, sameEs_eq h.2.2.2]
theorem AObj.same_eq {a b : AObj} (h : a.same b = true) : a = b := by
  unfold AObj.same at h
  split at h
  · simp only [Bool.and_eq_true] at h
    rw [Chunk.same_eq h.1, Nat.eq_of_beq_eq_true h.2.1, beqB_eq h.2.2]
  · simp only [Bool.and_eq_true] at h
    rw [sameEs_eq h.1, Nat.eq_of_beq_eq_true h.2]
  · cases h
theorem AEnt.same_eq {a b : AEnt} (h : a.same b = true) : a = b := by
  obtain ⟨o, lk⟩ := a
  obtain ⟨o', lk'⟩ := b
  simp only [AEnt.same, Bool.and_eq_true] at h
  rw [AObj.same_eq h.1, beqO_eq h.2]
theorem agrees_get : ∀ {l : List (Nat × AEnt)} {H : AHeap}, agrees l H = true → ∀ b e, (b, e) ∈ l → H.get b = some e
  | [], _, _, _, _, hm => by cases hm
  | (b0, e0) :: l, H, h, b, e, hm => by
    simp only [agrees] at h
    split at h
    · rename_i e' hg
      simp only [Bool.and_eq_true] at h
      rcases List.mem_cons.1 hm with hm | hm
      · cases hm
        rw [hg, AEnt.same_eq h.1]
      · exact agrees_get h.2 b e hm
    · cases h
theorem layL_get : ∀ {l : List (Nat × AEnt)} {t : Tr AEnt} {b : Nat} {e : AEnt}, (layL l t).get b = some e → (b, e) ∈ l ∨ t.get b = some e
  | [], _, _, _, h => .inr h
  | (b0, e0) :: l, t, b, e, h => by
    rcases layL_get (l := l) h with h | h
    · exact .inl (List.mem_cons_of_mem _ h)
    · rw [Tr.get_set] at h
      by_cases hb : b = b0
      · rw [if_pos hb] at h
        cases h
        subst hb
        exact .inl List.mem_cons_self
      · rw [if_neg hb] at h
        exact .inr h
theorem heapL_get {n : Nat} {l : List (Nat × AEnt)} {b : Nat} {e : AEnt} (h : (heapL n l).get b = some e) : (b, e) ∈ l := by
  rcases layL_get h with h | h
  · exact h
  · rw [Tr.get_nil] at h; cases h

theorem Step.widen {ρ ρ' : Env} {G H H' : AHeap} {w w' : World} (h : Step P ρ G w ρ' H' w') (hn : G.next = H.next) (hsub : ∀ b e, G.get b = some e → H.get b = some e) : Step P ρ H w ρ' H' w' where
  le := h.le
  rel := h.rel
  next := by rw [← hn]; exact h.next
  news := fun b c e => by rw [← hn]; exact h.news b c e
  size := h.size
  frame := fun r hr hx => h.frame r hr fun b e hb => hx b e (hsub b e hb)
  img := fun b e r hb hr hlt => by
    obtain ⟨b0, e0, h0, h1⟩ := h.img b e r hb hr hlt
    exact ⟨b0, e0, hsub b0 e0 h0, h1⟩
  same := h.same

theorem memo_ok {R : Rec} (hR : RecOk P R) {f : Nat} {args0 : List AV} {n0 n1 : Nat} {l0 l1 : List (Nat × AEnt)} {v1 : AV} (hrun : memoGood v1 n1 l1 (R.call f args0 (heapL n0 l0)) = true) : ExtOk P f (memoHook args0 n0 l0 v1 n1 l1) := by
  intro args H v H' h ρ w cargs hH hargs
  unfold memoHook at h
  split at h
  · rename_i hc
    cases h
    simp only [Bool.and_eq_true] at hc
    obtain ⟨c1, c2, c3⟩ := hc
    have ha := AV.beqL_eq c1
    subst ha
    have hn : H.next = n0 := Nat.eq_of_beq_eq_true c2
    have hsub : ∀ b e, (heapL n0 l0).get b = some e → H.get b = some e := fun b e hb => agrees_get c3 b e (heapL_get hb)
    have hG : HRel P ρ (heapL n0 l0) w := hH.sub (by simp [heapL, hn]) hsub
    unfold memoGood at hrun
    split at hrun
    · rename_i v2 H2 hcall
      simp only [Bool.and_eq_true] at hrun
      obtain ⟨r1, r2, r3⟩ := hrun
      have hv := AV.beq_eq r1
      subst hv
      obtain ⟨k1, k2⟩ := hR.call _ _ _ _ _ hcall ρ w cargs hG hargs
      rw [k1]
      show CallsIn _ _ _ _ _ _ _
      refine CallsIn.mono k2 ?_
      rintro e w2 ⟨c, rfl, ρ', s, hv⟩
      refine ⟨c, rfl, ρ', ?_, hv⟩
      have s1 := s.widen (H := H) (by simp [heapL, hn]) hsub
      exact s1.shrink (G := heapL n1 l1) (by simp [heapL, Nat.eq_of_beq_eq_true r2]) (fun b e hb => agrees_get r3 b e (heapL_get hb))
    · cases hrun
  · cases h
end Go.Proofs.YtpmildboffolkaaGreat.Abs

namespace Go.Proofs.YtpmildboffolkaaGreat.Abs
variable {P : Program}

/-! ## codec.Crc: its plain law -/
def bitsN : Nat → Nat → Nat
  | 0, x => x
  | n + 1, x => bitsN n (crcBit x)

theorem crcBit_even {y : Nat} (h : y % 2 = 0) : crcBit y = y / 2 := by
  unfold crcBit
  have : Nat.mod y 2 = 0 := h
  rw [this]; rfl
theorem crcBit_odd {y : Nat} (h : y % 2 = 1) : crcBit y = y / 2 ^^^ 2197175160 := by
  unfold crcBit
  have : Nat.mod y 2 = 1 := h
  rw [this]; rfl
theorem crcBit_lt {y : Nat} (h : y < 4294967296) : crcBit y < 4294967296 := by
  rcases Nat.mod_two_eq_zero_or_one y with e | e
  · rw [crcBit_even e]; omega
  · rw [crcBit_odd e]
    exact Nat.xor_lt_two_pow (n := 32) (by omega) (by omega)
theorem bitsN_lt : ∀ (n : Nat) {y : Nat}, y < 4294967296 → bitsN n y < 4294967296
  | 0, _, h => h
  | n + 1, _, h => bitsN_lt n (crcBit_lt h)

theorem crcByte_eq (c b : Nat) : crcByte c b = bitsN 8 (c ^^^ b) := rfl

theorem crcF_lt (l n : Nat) (hb : ∀ k, byteAt l n k < 256) : ∀ (k : Nat) {c : Nat}, c < 4294967296 → crcF k l n c < 4294967296
  | 0, _, h => h
  | k + 1, c, h => by
    show crcF k l n (crcByte c _) < _
    refine crcF_lt l n hb k ?_
    rw [crcByte_eq]
    exact bitsN_lt 8 (Nat.xor_lt_two_pow (n := 32) h (Nat.lt_trans (hb _) (by decide)))

theorem byteAt_256 (l n k : Nat) : byteAt l n k < 256 := by
  unfold byteAt
  exact Nat.mod_lt _ (by decide)


theorem crc_ok {f : Nat} {fn : Func} (hfn : P.funcs[f]? = some fn) (hn : (fn.name == "runtime.NumGoroutine") = false) (hb : fn.body.isSome = true)
    (hwalk : ∀ (s : ByteArray) (w : World) (_ : s.size ≤ 17592186044416) (F : Nat → Nat → Nat) (_ : ∀ c, F s.size c = c) (_ : ∀ k c (hk : k < s.size), F k c = F (k + 1) (bitsN 8 (c ^^^ s[k].toNat))) (_ : F 0 4294967295 < 4294967296),
      Calls P f #[.string s] w fun e w' => e = .returned (.int .u32 (4294967295 ^^^ F 0 4294967295 : Nat)) ∧ w' = w) : ExtOk P f crcHook := by
  intro args H v H' h ρ w cargs hH hargs
  unfold crcHook at h
  split at h
  · rename_i l n
    split at h
    · rename_i hl
      have hl' : l ≤ 17592186044416 := Nat.le_of_ble_eq_true hl
      generalize hq : crcF l l n 4294967295 = q at h
      generalize hq2 : crcOut q = q2 at h
      cases h
      obtain ⟨x, xs, h1, h2, rfl⟩ := concL_cons.1 hargs
      simp [AV.concL] at h2
      subst h2
      obtain ⟨_, rfl⟩ := conc_str.1 h1
      have henter := run_enter hfn hn (Option.some_get hb).symm #[strV l n] w
      rw [henter]
      show CallsIn _ _ _ _ _ _ _
      rw [callsIn_wide]
      have hsz : (⟨(bytesL l n).toArray⟩ : ByteArray).size = l := by show (bytesL l n).toArray.size = l; simp
      have hC := hwalk ⟨(bytesL l n).toArray⟩ w (by rw [hsz]; exact hl') (fun k c => crcF (l - k) l n c) (fun c => by
          show crcF (l - _) l n c = c
          rw [hsz, Nat.sub_self]; rfl) (fun k c hk => by
          rw [hsz] at hk
          show crcF (l - k) l n c = crcF (l - (k + 1)) l n _
          rw [show l - k = (l - (k + 1)) + 1 by omega]
          show crcF (l - (k + 1)) l n (crcByte c (byteAt l n (l - (l - (k + 1) + 1)))) = _
          rw [crcByte_eq]
          congr 3
          rw [show l - (l - (k + 1) + 1) = k by omega]
          have e : (⟨(bytesL l n).toArray⟩ : ByteArray)[k] = UInt8.ofNat (byteAt l n k) := by
            show (bytesL l n).toArray[k] = _
            have := bytesL_get l n k
            rw [if_pos hk] at this
            simpa using (List.getElem?_eq_some_iff.1 this).2
          rw [e]
          have hb := byteAt_256 l n k
          simp [Nat.mod_eq_of_lt hb]) (by
          show crcF (l - 0) l n 4294967295 < _
          exact crcF_lt l n (byteAt_256 l n) _ (by decide))
      refine Calls.mono hC ?_
      rintro e w2 ⟨rfl, rfl⟩
      refine ⟨_, rfl, ρ, .refl hH, ?_⟩
      have e0 : l - 0 = l := Nat.sub_zero l
      show some _ = some (Value.int .u32 ((4294967295 ^^^ crcF (l - 0) l n 4294967295 : Nat) : Int))
      rw [e0, hq]
      show some (Value.int .u32 (Int.ofNat q2)) = _
      rw [← hq2]
      rfl
    · cases h
  · cases h
end Go.Proofs.YtpmildboffolkaaGreat.Abs

namespace Go.Proofs.YtpmildboffolkaaGreat.Abs
variable {P : Program} {K : Hooks}

/-! ## What is paid once for a program -/
def allF (p : Func → Bool) : List Func → Bool
  | [] => true
  | f :: l => and (p f) (allF p l)
theorem allF_mem {p : Func → Bool} : ∀ {l : List Func}, allF p l = true → ∀ f ∈ l, p f = true
  | _ :: l, h, f, hm => by
    simp only [allF, Bool.and_eq_true] at h
    rcases List.mem_cons.1 hm with rfl | hm
    · exact h.1
    · exact allF_mem h.2 f hm
theorem allF_at {p : Func → Bool} (h : allF p P.funcs.toList = true) {f : Nat} {fn : Func} (hf : P.funcs[f]? = some fn) : p fn = true :=
  allF_mem h fn (by
    have := Array.mem_of_getElem? hf
    exact Array.mem_toList_iff.2 this)
def gorOk (fn : Func) : Bool := match fn.body with | some _ => !(fn.name == "runtime.NumGoroutine") | none => true
theorem noGor_of (h : allF gorOk P.funcs.toList = true) : NoGor P := by
  intro f fn hf hb
  have := allF_at h hf
  unfold gorOk at this
  split at this
  · simpa using this
  · rename_i hn; rw [hn] at hb; cases hb
theorem okU_of {F : Nat → Option Func} (h : allF fnOkU P.funcs.toList = true) (hF : ∀ f fn, F f = some fn → P.funcs[f]? = some fn) : ∀ f fn, F f = some fn → fnOkU fn = true :=
  fun f fn hf => allF_at h (hF f fn hf)

/-- a table of the functions, cut at their number -/
def cutF (n : Nat) (t : Tr Func) (f : Nat) : Option Func := match Nat.blt f n with | true => t.get f | false => none
theorem cutF_ok {n : Nat} {t : Tr Func} (h : (List.range n).map (fun f => t.get f) = P.funcs.toList.map some) : ∀ f fn, cutF n t f = some fn → P.funcs[f]? = some fn := by
  intro f fn hf
  unfold cutF at hf
  split at hf
  · rename_i hlt
    have hlt' : f < n := by simpa [Nat.blt_eq] using hlt
    have h1 := congrArg (fun l => l[f]?) h
    simp only [List.getElem?_map, List.getElem?_range hlt', Option.map_some, hf] at h1
    cases hq : P.funcs.toList[f]? with
    | none => rw [hq] at h1; cases h1
    | some g =>
      rw [hq] at h1
      simp at h1
      rw [h1, ← hq]; simp
  · cases hf

theorem hooks_none : HooksOk P { ext := fun _ => none, inv := hookInv P } :=
  { ext := fun f h args H v H' hx => nomatch hx
    inv := fun name t f hf v w => inv_ok hf v w }
/-- one function more is taken by what it comes to -/
def addHook (K : Hooks) (f : Nat) (h : List AV → AHeap → Res) : Hooks := { ext := fun g => match Nat.beq g f with | true => some h | false => K.ext g, inv := K.inv }
theorem hooks_add (hK : HooksOk P K) {f : Nat} {h : List AV → AHeap → Res} (hf : ExtOk P f h) : HooksOk P (addHook K f h) := by
  refine ⟨fun g h' args H v H' hx hr ρ w cargs hH hargs => ?_, hK.inv⟩
  simp only [addHook] at hx
  split at hx
  · rename_i hb
    have := Nat.eq_of_beq_eq_true hb
    subst this
    cases hx
    exact hf args H v H' hr ρ w cargs hH hargs
  · exact hK.ext g h' args H v H' hx hr ρ w cargs hH hargs
end Go.Proofs.YtpmildboffolkaaGreat.Abs

namespace Go.Proofs.YtpmildboffolkaaGreat.Abs
open Go.RowKit
variable {P : Program}

/-! ## Closed calls -/
def doneHook (v : AV) : List AV → AHeap → Res
  | [], H => .ok v H
  | _, _ => .bad
def isRet (b : Bool) : Res → Bool
  | .ok (.bool c) _ => beqB b c
  | _ => false
theorem isRet_eq {b : Bool} {r : Res} (h : isRet b r = true) : ∃ H, r = .ok (.bool b) H := by
  unfold isRet at h
  split at h
  · rename_i c H
    rw [beqB_eq h]
    exact ⟨H, rfl⟩
  · cases h
/-- one name at most -/
def Env.lone (c : Option Nat) : Env := ⟨fun x => if x = 0 then c else none, fun _ => 0, fun _ => Nat.zero_le _⟩
theorem hrel_lone (c : Option Nat) (w : World) : HRel P (Env.lone c) ⟨1, .nil⟩ w := by
  refine ⟨fun b e h => ?_, fun b b' e e' c h => ?_, fun b c h => ?_⟩
  · simp [AHeap.get, Tr.get_nil] at h
  · simp [AHeap.get, Tr.get_nil] at h
  · simp only [Env.lone] at h
    split at h
    · rename_i e; subst e; exact Nat.zero_lt_one
    · cases h
theorem hrel_none (w : World) : HRel P (Env.lone none) ⟨0, .nil⟩ w := by
  refine ⟨fun b e h => ?_, fun b b' e e' c h => ?_, fun b c h => ?_⟩
  · simp [AHeap.get, Tr.get_nil] at h
  · simp [AHeap.get, Tr.get_nil] at h
  · simp [Env.lone] at h
theorem step_keeps {ρ ρ' : Env} {n : Nat} {H' : AHeap} {w w' : World} (h : Step P ρ ⟨n, .nil⟩ w ρ' H' w') (r : Nat) (hr : r < w.heap.size) : w'.heap[r]? = w.heap[r]? :=
  h.frame r hr fun b e hb => by simp [AHeap.get, Tr.get_nil] at hb
theorem below_of_step {ρ ρ' : Env} {n : Nat} {H' : AHeap} {w w' : World} (h : Step P ρ ⟨n, .nil⟩ w ρ' H' w') : Below w.heap.size w w' :=
  ⟨h.same.os, h.same.tape, h.same.output, h.size, fun k hk => step_keeps h k hk⟩

theorem done_ok {R : Rec} (hR : RecOk P R) {f : Nat} {b : Bool} (hrun : isRet b (R.call f [] ⟨0, .nil⟩) = true) : ExtOk P f (doneHook (.bool b)) := by
  intro args H v H' h ρ w cargs hH hargs
  unfold doneHook at h
  split at h
  · cases h
    obtain ⟨H2, hc⟩ := isRet_eq hrun
    have hargs0 : AV.concL (Env.lone none) [] = some cargs := by
      simp only [AV.concL] at hargs ⊢
      exact hargs
    obtain ⟨k1, k2⟩ := hR.call _ _ _ _ _ hc _ w cargs (hrel_none w) hargs0
    rw [k1]
    show CallsIn _ _ _ _ _ _ _
    refine CallsIn.mono k2 ?_
    rintro e w2 ⟨c, rfl, ρ', s, hv⟩
    have hc' : c = .bool b := by
      have : (AV.bool b).conc ρ' = some (.bool b) := rfl
      rw [this] at hv; exact (Option.some.inj hv).symm
    subst hc'
    refine ⟨_, rfl, ρ, ⟨.refl ρ, ⟨fun x e hx => ?_, hH.sep, hH.fresh⟩, Nat.le_refl _, fun _ _ x => .inl x, s.size, fun r hr _ => step_keeps s r hr, fun x e r hx hr _ => ⟨x, e, hx, hr⟩, s.same⟩, rfl⟩
    obtain ⟨c, o, h1, h2, h3⟩ := hH.obj x e hx
    exact ⟨c, o, h1, by rw [step_keeps s c ((Array.getElem?_eq_some_iff.1 h2).1)]; exact h2, h3⟩
  · cases h

/-- a call on one slice that is not looked at -/
theorem one_slice {R : Rec} (hR : RecOk P R) {f : Nat} {b : Bool} (hrun : ∀ x : AV, isRet b (R.call f [x] ⟨1, .nil⟩) = true) (a : Option Addr) (len cap : Nat) (h : (a = none ∧ len = 0 ∧ cap = 0) ∨ ∃ c off, a = some ⟨c, off, none⟩ ∧ len ≤ cap) (w : World) :
    Calls P f #[.slice a len cap] w fun e w' => e = .returned (.bool b) ∧ Below w.heap.size w w' := by
  have key : ∀ (x : AV) (c : Option Nat), x.conc (Env.lone c) = some (.slice a len cap) → Calls P f #[.slice a len cap] w fun e w' => e = .returned (.bool b) ∧ Below w.heap.size w w' := by
    intro x c hx
    obtain ⟨H2, hc⟩ := isRet_eq (hrun x)
    obtain ⟨k1, k2⟩ := hR.call _ _ _ _ _ hc _ w [.slice a len cap] (hrel_lone c w) (concL_cons.2 ⟨_, _, hx, rfl, rfl⟩)
    have k3 := callsIn_wide.1 k2
    refine Calls.mono k3 ?_
    rintro e w2 ⟨c, rfl, ρ', s, hv⟩
    have hc' : c = .bool b := by
      have : (AV.bool b).conc ρ' = some (.bool b) := rfl
      rw [this] at hv; exact (Option.some.inj hv).symm
    subst hc'
    exact ⟨rfl, below_of_step s⟩
  rcases h with ⟨rfl, rfl, rfl⟩ | ⟨c, off, rfl, hle⟩
  · exact key .nils none rfl
  · exact key (.slice 0 off len (.exact cap)) (some c) (by simp [AV.conc, Env.lone, hle])
end Go.Proofs.YtpmildboffolkaaGreat.Abs

namespace Go.Proofs.YtpmildboffolkaaGreat.Abs
open Go.Shelf Go.Proofs
variable {P : Program}

/-! ## Bytes in strings -/
theorem unpackL_bytes : ∀ (l n : Nat), bytesL l n = (unpackL l n).map UInt8.ofNat
  | 0, _ => by simp [bytesL, unpackL]
  | k + 1, n => by
    have ih := unpackL_bytes k n
    have e : bytesL (k + 1) n = UInt8.ofNat (Nat.mod (Nat.div n (pw k)) 256) :: bytesL k n := by
      apply List.ext_getElem?
      intro i
      rw [bytesL_get]
      cases i with
      | zero =>
        simp only [Nat.zero_lt_succ, if_true, List.getElem?_cons_zero, Option.some.injEq]
        rfl
      | succ i =>
        rw [List.getElem?_cons_succ, bytesL_get]
        by_cases h : i < k
        · rw [if_pos (by omega), if_pos h]
          congr 2
          show Nat.mod (Nat.div n (pw (k + 1 - 1 - (i + 1)))) 256 = Nat.mod (Nat.div n (pw (k - 1 - i))) 256
          congr 3
          omega
        · rw [if_neg (by omega), if_neg h]
    rw [e, ih]
    rfl
theorem unpackL_lt : ∀ (l n : Nat), ∀ x ∈ unpackL l n, x < 256
  | 0, _, x, h => by simp [unpackL] at h
  | k + 1, n, x, h => by
    simp only [unpackL, List.mem_cons] at h
    rcases h with rfl | h
    · exact Nat.mod_lt _ (by decide)
    · exact unpackL_lt k n x h
theorem ofNat_beq {x b : Nat} (hx : x < 256) (hb : b < 256) : (UInt8.ofNat x == UInt8.ofNat b) = Nat.beq x b := by
  rw [Bool.eq_iff_iff]
  simp only [beq_iff_eq]
  constructor
  · intro h
    have := congrArg UInt8.toNat h
    simp [Nat.mod_eq_of_lt hx, Nat.mod_eq_of_lt hb] at this
    subst this; simp
  · intro h
    rw [Nat.eq_of_beq_eq_true h]

theorem idxN_eq {b : Nat} (hb : b < 256) : ∀ (l : List Nat) (i : Nat), (∀ x ∈ l, x < 256) →
    idxN l b i = if Lib.indexByte (l.map UInt8.ofNat) (UInt8.ofNat b) = -1 then -1 else (i : Int) + Lib.indexByte (l.map UInt8.ofNat) (UInt8.ofNat b)
  | [], i, _ => by simp [idxN, Lib.indexByte]
  | x :: l, i, h => by
    have hx := h x (by simp)
    have ih := idxN_eq hb l (i + 1) (fun y hy => h y (by simp [hy]))
    have hge := Lib.indexByte_ge (l.map UInt8.ofNat) (UInt8.ofNat b)
    simp only [List.map_cons, Lib.indexByte, idxN]
    rw [ofNat_beq hx hb]
    cases hxb : Nat.beq x b with
    | true => simp
    | false =>
      simp only [Bool.false_eq_true, if_false]
      show idxN l b (i + 1) = _
      rw [ih]
      by_cases e : Lib.indexByte (l.map UInt8.ofNat) (UInt8.ofNat b) = -1
      · simp [e]
      · have e' : (Lib.indexByte (l.map UInt8.ofNat) (UInt8.ofNat b) == -1) = false := by simpa using e
        rw [if_neg e, e']
        simp only [Bool.false_eq_true, if_false]
        rw [if_neg (by omega)]
        omega

theorem cntN_eq {b : Nat} (hb : b < 256) : ∀ (l : List Nat) (c : Nat), (∀ x ∈ l, x < 256) → cntN l b c = c + Lib.countByte (l.map UInt8.ofNat) (UInt8.ofNat b)
  | [], c, _ => by simp [cntN, Lib.countByte]
  | x :: l, c, h => by
    have hx := h x (by simp)
    have hl : ∀ y ∈ l, y < 256 := fun y hy => h y (by simp [hy])
    simp only [List.map_cons, Lib.countByte, cntN, List.count_cons]
    rw [ofNat_beq hx hb]
    cases hxb : Nat.beq x b with
    | true =>
      simp only [if_true]
      have := cntN_eq hb l (Nat.succ c) hl
      rw [this]
      simp only [Lib.countByte]; omega
    | false =>
      simp only [Bool.false_eq_true, if_false, Nat.add_zero]
      exact cntN_eq hb l c hl

theorem strV_data (l n : Nat) : (strV l n) = .string ⟨(bytesL l n).toArray⟩ := rfl
theorem u8_of {b : Nat} (hb : b < 256) : (Int.ofNat b).toNat.toUInt8 = UInt8.ofNat b := rfl

theorem idx_ok {f : Nat} {fn : Func} (hfn : P.funcs[f]? = some fn) (hn : (fn.name == "runtime.NumGoroutine") = false) (hb : fn.body.isNone = true) (hx : Extern.findNext fn = none) (he : Extern.find fn = some Extern.BytealgIndexByte.indexByte) : ExtOk P f idxHook := by
  intro args H v H' h ρ w cargs hH hargs
  rw [run_extern hfn hn hb hx he]
  unfold idxHook at h
  split at h
  · rename_i l n b
    split at h
    · rename_i hlt
      have hlt' : b < 256 := by simpa [Nat.blt_eq] using hlt
      cases h
      obtain ⟨x, xs, h1, h2, rfl⟩ := concL_cons.1 hargs
      obtain ⟨y, ys, h3, h4, rfl⟩ := concL_cons.1 h2
      simp [AV.concL] at h4
      subst h4
      cases h3
      obtain ⟨_, rfl⟩ := conc_str.1 h1
      have hrun := Lib.run_indexByteString (P := P) ⟨(bytesL l n).toArray⟩ (Int.ofNat b) w
      have harr : [strV l n, Value.int .u8 (Int.ofNat b)].toArray = #[.string ⟨(bytesL l n).toArray⟩, .int .u8 (Int.ofNat b)] := rfl
      rw [harr, run_v hrun]
      refine ⟨ρ, .refl hH, ?_⟩
      show some _ = some _
      congr 2
      have e1 : (⟨(bytesL l n).toArray⟩ : ByteArray).data.toList = bytesL l n := rfl
      rw [e1, unpackL_bytes, u8_of hlt', idxN_eq hlt' _ 0 (unpackL_lt l n)]
      split
      · rename_i e; rw [e]
      · simp
    · cases h
  · cases h

theorem cnt_ok {f : Nat} {fn : Func} (hfn : P.funcs[f]? = some fn) (hn : (fn.name == "runtime.NumGoroutine") = false) (hb : fn.body.isNone = true) (hx : Extern.findNext fn = none) (he : Extern.find fn = some Extern.BytealgCount.count) : ExtOk P f cntHook := by
  intro args H v H' h ρ w cargs hH hargs
  rw [run_extern hfn hn hb hx he]
  unfold cntHook at h
  split at h
  · rename_i l n b
    split at h
    · rename_i hlt
      have hlt' : b < 256 := by simpa [Nat.blt_eq] using hlt
      cases h
      obtain ⟨x, xs, h1, h2, rfl⟩ := concL_cons.1 hargs
      obtain ⟨y, ys, h3, h4, rfl⟩ := concL_cons.1 h2
      simp [AV.concL] at h4
      subst h4
      cases h3
      obtain ⟨_, rfl⟩ := conc_str.1 h1
      have hrun := Lib.run_countString (P := P) ⟨(bytesL l n).toArray⟩ (Int.ofNat b) w
      have harr : [strV l n, Value.int .u8 (Int.ofNat b)].toArray = #[.string ⟨(bytesL l n).toArray⟩, .int .u8 (Int.ofNat b)] := rfl
      rw [harr, run_v hrun]
      refine ⟨ρ, .refl hH, ?_⟩
      show some _ = some _
      congr 2
      have e1 : (⟨(bytesL l n).toArray⟩ : ByteArray).data.toList = bytesL l n := rfl
      rw [e1, unpackL_bytes, u8_of hlt', cntN_eq hlt' _ 0 (unpackL_lt l n), Nat.zero_add]
      rfl
    · cases h
  · cases h

theorem anyIn_eq (m : List Nat) (hm : ∀ x ∈ m, x < 256) : ∀ (l : List Nat), (∀ x ∈ l, x < 256) → anyIn l m = Lib.containsAny (l.map UInt8.ofNat) (m.map UInt8.ofNat)
  | [], _ => by simp [anyIn, Lib.containsAny, Lib.indexAny]
  | x :: l, h => by
    have ih := anyIn_eq m hm l (fun y hy => h y (by simp [hy]))
    have hx := h x (by simp)
    have hmem : memN x m = (m.map UInt8.ofNat).contains (UInt8.ofNat x) := by
      clear ih
      induction m with
      | nil => rfl
      | cons y m ih =>
        have hy := hm y (by simp)
        simp only [memN, List.map_cons, List.contains_cons]
        rw [ofNat_beq hx hy, ih (fun z hz => hm z (by simp [hz]))]
    simp only [anyIn, List.map_cons]
    rw [hmem, ih]
    have hge := Lib.indexAny_ge (m.map UInt8.ofNat) (l.map UInt8.ofNat)
    unfold Lib.containsAny
    conv => rhs; unfold Lib.indexAny
    cases hc : (m.map UInt8.ofNat).contains (UInt8.ofNat x) with
    | true => simp
    | false =>
      simp only [Bool.false_or, Bool.false_eq_true, if_false]
      by_cases e : Lib.indexAny (l.map UInt8.ofNat) (m.map UInt8.ofNat) = -1
      · simp [e]
      · have e' : (Lib.indexAny (l.map UInt8.ofNat) (m.map UInt8.ofNat) == -1) = false := by simpa using e
        rw [e']
        simp only [Bool.false_eq_true, if_false]
        have h1 : 0 ≤ Lib.indexAny (l.map UInt8.ofNat) (m.map UInt8.ofNat) := by omega
        have h2 : 0 ≤ Lib.indexAny (l.map UInt8.ofNat) (m.map UInt8.ofNat) + 1 := by omega
        simp [h1, h2]
theorem asciiN_mem : ∀ {l : List Nat}, asciiN l = true → ∀ x ∈ l, x < 128
  | x :: l, h, y, hy => by
    simp only [asciiN, Bool.and_eq_true] at h
    rcases List.mem_cons.1 hy with rfl | hy
    · simpa [Nat.blt_eq] using h.1
    · exact asciiN_mem h.2 y hy

theorem any_ok {rn : Ren} (L : Lays.n150 P rn) (h116 : (P.info? (rn.t 116)).map (fun i => (i.zero, i.size)) = some (some (.agg (Array.replicate 256 (.bool false))), 256)) : ExtOk P (rn.f 150) anyHook := by
  intro args H v H' h ρ w cargs hH hargs
  have hbody : (Body.n150 rn).body = some ((Body.n150 rn).body.get rfl) := rfl
  rw [run_enter L.f150 (by rfl) hbody]
  show CallsIn _ _ _ _ _ _ _
  rw [callsIn_wide]
  unfold anyHook at h
  split at h
  · rename_i l n lc nc
    split at h
    · rename_i hc
      simp only [Bool.and_eq_true] at hc
      obtain ⟨⟨c1, c2⟩, c3, c4⟩ := hc
      have hl : l ≤ 1000000 := Nat.le_of_ble_eq_true c1
      have hlc : lc ≤ 1000000 := Nat.le_of_ble_eq_true c2
      cases h
      obtain ⟨x, xs, h1, h2, rfl⟩ := concL_cons.1 hargs
      obtain ⟨y, ys, h3, h4, rfl⟩ := concL_cons.1 h2
      simp [AV.concL] at h4
      subst h4
      obtain ⟨_, rfl⟩ := conc_str.1 h1
      obtain ⟨_, rfl⟩ := conc_str.1 h3
      have small : ∀ {k m : Nat}, asciiN (unpackL k m) = true → ∀ (j : Nat) b, (⟨(bytesL k m).toArray⟩ : ByteArray).data.toList[j]? = some b → b.toNat < 128 := by
        intro k m hk j b hj
        have e1 : (⟨(bytesL k m).toArray⟩ : ByteArray).data.toList = bytesL k m := rfl
        rw [e1, unpackL_bytes, List.getElem?_map] at hj
        cases hu : (unpackL k m)[j]? with
        | none => rw [hu] at hj; cases hj
        | some z =>
          rw [hu] at hj
          simp at hj
          subst hj
          have := asciiN_mem hk z (List.mem_of_getElem? hu)
          simp
          omega
      have hsz : ∀ k m, (⟨(bytesL k m).toArray⟩ : ByteArray).size = k := fun k m => by show (bytesL k m).toArray.size = k; simp
      have hC := Any.strings_ContainsAny_laid L h116 ⟨(bytesL l n).toArray⟩ ⟨(bytesL lc nc).toArray⟩ w (by rw [hsz]; omega) (by rw [hsz]; omega) (small c3) (small c4)
      refine Calls.mono hC ?_
      rintro e w2 ⟨rfl, hb⟩
      have e1 : (⟨(bytesL l n).toArray⟩ : ByteArray).data.toList = bytesL l n := rfl
      have e2 : (⟨(bytesL lc nc).toArray⟩ : ByteArray).data.toList = bytesL lc nc := rfl
      refine ⟨_, rfl, ρ, ⟨.refl ρ, ⟨fun x e hx => ?_, hH.sep, hH.fresh⟩, Nat.le_refl _, fun _ _ x => .inl x, hb.size, fun r hr _ => hb.block r hr, fun x e r hx hr _ => ⟨x, e, hx, hr⟩, ⟨hb.os, hb.output, hb.tape⟩⟩, ?_⟩
      · obtain ⟨c, o, g1, g2, g3⟩ := hH.obj x e hx
        exact ⟨c, o, g1, by rw [hb.block c ((Array.getElem?_eq_some_iff.1 g2).1)]; exact g2, g3⟩
      · show some _ = some _
        rw [e1, e2, unpackL_bytes, unpackL_bytes, ← anyIn_eq _ (unpackL_lt lc nc) _ (unpackL_lt l n)]
    · cases h
  · cases h
end Go.Proofs.YtpmildboffolkaaGreat.Abs

namespace Go.Proofs.YtpmildboffolkaaGreat.Abs
variable {P : Program} {ρ : Env} {H : AHeap} {w : World} {K : Hooks} {R : Rec}

/-! ## All that the next entry of a map may be -/
theorem concE_at : ∀ {es : List (AV × AV × Nat)} {l : List MapEntry}, concE ρ es = some l → ∀ (i : Nat) (me : MapEntry), l[i]? = some me → ∃ k v n x y, es[i]? = some (k, v, n) ∧ k.conc ρ = some x ∧ v.conc ρ = some y ∧ me = { key := x, val := y, born := n }
  | [], l, h, i, me, hi => by simp [concE] at h; subst h; simp at hi
  | (k, v, n) :: es, l, h, i, me, hi => by
    obtain ⟨x, y, l', h1, h2, h3, rfl⟩ := concE_cons.1 h
    cases i with
    | zero => simp at hi; subst hi; exact ⟨k, v, n, x, y, rfl, h1, h2, rfl⟩
    | succ i =>
      simp at hi
      obtain ⟨k', v', n', x', y', g1, g2, g3, g4⟩ := concE_at h3 i me hi
      exact ⟨k', v', n', x', y', by simpa using g1, g2, g3, g4⟩
theorem altsOf_mem {r m since clock : Nat} {seen : List Nat} : ∀ {es : List (AV × AV × Nat)} {i : Nat} {e : AV × AV × Nat}, es[i]? = some e → (AV.tuple [.bool true, e.1, e.2.1], H.put r none (.mapIter (some m) since (seen ++ [e.2.2]) clock)) ∈ altsOf H r m since seen clock es
  | [], i, e, h => by simp at h
  | e0 :: es, i, e, h => by
    cases i with
    | zero => simp at h; subst h; exact List.mem_cons_self
    | succ i => simp at h; exact List.mem_cons_of_mem _ (altsOf_mem h)
theorem oldAll_conc {since : Nat} : ∀ {es : List (AV × AV × Nat)} {l : List MapEntry}, concE ρ es = some l → oldAll since es = true → ∀ e ∈ l, e.born < since
  | [], l, h, _, e, he => by simp [concE] at h; subst h; cases he
  | (k, v, n) :: es, l, h, ho, e, he => by
    obtain ⟨x, y, l', h1, h2, h3, rfl⟩ := concE_cons.1 h
    simp only [oldAll, Bool.and_eq_true] at ho
    rcases List.mem_cons.1 he with rfl | he
    · simpa [Nat.blt_eq] using ho.1
    · exact oldAll_conc h3 ho.2 e he

theorem nextAll_sound (hH : HRel P ρ H w) {x : AV} {cx : Value} {ty : Nat} {alts : List (AV × AHeap)} (hx : x.conc ρ = some cx) (h : nextAll H x = some alts) : ∃ v H', (v, H') ∈ alts ∧ Did P ρ H w (Instr.next cx false ty) v H' := by
  unfold nextAll at h
  split at h
  · rename_i r hp
    rw [asPtr_eq hp] at hx
    obtain ⟨cr, h1, rfl⟩ := conc_ptr.1 hx
    split at h
    · rename_i s l c hi
      cases h
      obtain ⟨cr', o, g1, g2, g3⟩ := hH.obj r _ (asIter_none hi)
      rw [h1] at g1; cases g1
      have g3' : o = .mapIter none s l.toArray c := g3
      subst g3'
      refine ⟨_, _, List.mem_singleton.2 rfl, .val hH (c := .tuple #[.bool false]) ?_ rfl⟩
      simp [Instr.next, run_getObj g2, Result.andThen]
    · rename_i m since seen last hi
      obtain ⟨cr', o, g1, g2, g3⟩ := hH.obj r _ (asIter_none hi)
      rw [h1] at g1; cases g1
      obtain ⟨cm, k1, k2⟩ := g3
      subst k2
      split at h
      · rename_i es clock hes
        obtain ⟨cm', l, m1, m2, m3, m4⟩ := hH.mapO' hes
        rw [k1] at m2; cases m2
        split at h
        · cases h
        · rename_i hno
          have hno' : (!seen.toArray.isEmpty && !l.toArray.isEmpty && l.toArray.all fun e => decide (e.born ≥ last)) = false := by
            rw [noL_eq, noL_eq, allFrom_conc last m3] at hno
            have hl : es.isEmpty = l.isEmpty := by
              have := concE_length m3
              cases es <;> cases l <;> simp_all
            rw [hl] at hno
            simpa [Bool.and_assoc] using hno
          have hfil := leftOf_conc seen m3
          have harr : (l.toArray.filter fun e => !seen.toArray.contains e.born) = (l.filter fun e => !seen.contains e.born).toArray := by simp
          split at h
          · rename_i hl
            cases h
            rw [hl] at hfil
            have hfil' : (l.filter fun e => !seen.contains e.born) = [] := (Option.some.inj hfil).symm
            refine ⟨_, _, List.mem_singleton.2 rfl, .val hH (c := .tuple #[.bool false]) ?_ rfl⟩
            simp only [Instr.next, Sem.run_bind, run_getObj g2 (by simp), Result.andThen, run_getObj_map m4, hno', Bool.false_eq_true, if_false, harr, hfil']
            simp [Question.forced]
          · rename_i e q hl
            split at h
            · rename_i hold
              cases h
              rw [hl] at hfil
              generalize hL : (l.filter fun e => !seen.contains e.born) = L at hfil harr
              have hne : L ≠ [] := by
                intro e0; subst e0
                obtain ⟨ak, av, an⟩ := e
                obtain ⟨x, y, l', _, _, _, e4⟩ := concE_cons.1 hfil
                cases e4
              have hall := oldAll_conc hfil hold
              have hold' : (L.toArray.filter fun e => decide (e.born < since)) = L.toArray := by
                rw [Array.filter_eq_self]
                intro e he
                simpa using hall e (by simpa using he)
              have hnew' : (L.toArray.filter fun e => decide (e.born ≥ since)) = #[] := by
                rw [Array.filter_eq_empty_iff]
                intro e he
                have := hall e (by simpa using he)
                simp; omega
              have hne' : L.toArray.isEmpty = false := by cases L with | nil => exact absurd rfl hne | cons a b => rfl
              have hlen : 0 < L.length := by cases L with | nil => exact absurd rfl hne | cons a b => simp
              -- which one
              obtain ⟨i, w1, hi1, hch, hw1⟩ : ∃ i w1, i < L.length ∧ (choose (.mapNext L.length)).run P w = .ok i w1 ∧ w1.heap = w.heap ∧ Same w w1 := by
                rw [run_choose]
                by_cases hf : (Question.mapNext L.length).forced = true
                · rw [if_pos hf]
                  exact ⟨0, w, hlen, rfl, rfl, .refl w⟩
                · rw [if_neg hf]
                  exact ⟨_, _, Nat.mod_lt _ hlen, rfl, rfl, ⟨rfl, rfl, rfl⟩⟩
              obtain ⟨hw1, hs1⟩ := hw1
              obtain ⟨kx, vx, nx, x, y, f1, f2, f3, f4⟩ := concE_at hfil i (L[i]'hi1) (List.getElem?_eq_getElem hi1)
              refine ⟨_, _, altsOf_mem f1, ?_⟩
              have hH1 := hH.heap_eq hw1
              have g2' : w1.heap[cr]? = some (.mapIter (some cm) since seen.toArray last) := by rw [hw1]; exact g2
              have hst := set_step hH1 (asIter_none hi) h1 g2' (o := .mapIter (some m) since (seen ++ [nx]) clock) (obj := .mapIter (some cm) since (seen ++ [nx]).toArray clock) ⟨cm, k1, rfl⟩
              refine ⟨ρ, _, .tuple #[.bool true, x, y], ?_, (Step.heap_eq hH hw1 hs1).trans hst, ?_⟩
              · simp only [Instr.next, Sem.run_bind, run_getObj g2 (by simp), Result.andThen, run_getObj_map m4, hno', Bool.false_eq_true, if_false, harr, hold', hnew', hne']
                have hcs : ((#[] : Array (Option MapEntry)) ++ (L.toArray ++ #[]).map some).size = L.length := by simp
                rw [hcs, hch]
                simp only []
                have hget : ((#[] : Array (Option MapEntry)) ++ (L.toArray ++ #[]).map some)[i]? = some (some (L[i]'hi1)) := by
                  simp [hi1]
                rw [hget]
                simp [run_setObj g2', Result.andThen, f4]
              · simp [AV.conc, AV.concL, f2, f3]
            · cases h
      · cases h
    · cases h
  · cases h
end Go.Proofs.YtpmildboffolkaaGreat.Abs

namespace Go.Proofs.YtpmildboffolkaaGreat.Abs
variable {P : Program} {ρ : Env} {H : AHeap} {w : World} {K : Hooks} {R : Rec}

/-! ## A function whose maps may be gone through in any order -/
def AnyPost (P : Program) (ρ : Env) (H : AHeap) (w : World) (kept nt : Nat) (g : Out → Bool) (e : Exit) (a : Act) (w' : World) : Prop := ∃ out, g out = true ∧ OutPost P ρ H w kept nt out e a w'
theorem AnyPost.pre {ρ ρ1 : Env} {H H1 : AHeap} {w w1 : World} {kept nt : Nat} {g : Out → Bool} {e : Exit} {a : Act} {w' : World} (h : Step P ρ H w ρ1 H1 w1) (k : AnyPost P ρ1 H1 w1 kept nt g e a w') : AnyPost P ρ H w kept nt g e a w' :=
  let ⟨out, h1, h2⟩ := k; ⟨out, h1, h2.pre h⟩

def AllSpec (P : Program) (K : Hooks) (R : Rec) (kept nt : Nat) (c : Code) : Prop :=
  ∀ (r ro : Option Nat) (ρ : Env) (H : AHeap) (w : World) (T : Tr AV) (ds : List Nat) (a : Act) (g : Out → Bool), (∀ out, g out = true → out.good) → RoRel ρ r ro → HRel P ρ H w → TRel ρ kept nt T a.tmps → DRel ρ ds a.defers →
    (codeAll P K kept nt c).run R r T ds H g = true → c.wpIn (fenceOf ro) 0 P (AnyPost P ρ H w kept nt g) a w

variable {kept nt : Nat}

theorem all_one {c : Code} (hc : CodeSpec P K R kept nt c) {r ro : Option Nat} {ρ : Env} {H : AHeap} {w : World} {T : Tr AV} {ds : List Nat} {a : Act} {g : Out → Bool} (hgood : ∀ out, g out = true → out.good) (hro : RoRel ρ r ro) (hH : HRel P ρ H w) (hT : TRel ρ kept nt T a.tmps) (hD : DRel ρ ds a.defers)
    (h : g ((codeC P K kept nt c).run R r T ds H) = true) : c.wpIn (fenceOf ro) 0 P (AnyPost P ρ H w kept nt g) a w :=
  wpIn_mono (hc r ro ρ H w T ds a _ hro hH hT hD rfl (hgood _ h)) fun e a' w' ho => ⟨_, h, ho⟩

theorem altsAll_mem {keep : Cl (List AV → Tr AV → Option (Tr AV))} {k : SeqC} {T : Tr AV} {ds : List Nat} {g : Out → Bool} : ∀ {l : List (AV × AHeap)}, altsAll keep k R T ds g l = true → ∀ v H1, (v, H1) ∈ l → g (seqOut keep T ds (k.run R T [v] H1)) = true
  | (v0, H0) :: l, h, v, H1, hm => by
    simp only [altsAll, Bool.and_eq_true] at h
    rcases List.mem_cons.1 hm with hm | hm
    · cases hm; exact h.1
    · exact altsAll_mem h.2 v H1 hm

theorem isNext_eq {ops : List Oper} {it : Operand} {o : Oper} {rest : List Oper} (h : isNext ops = some (it, o, rest)) : ops = o :: rest ∧ o.op = .next it false ∧ o.guard = none := by
  unfold isNext at h
  split at h
  · split at h
    · cases h; exact ⟨rfl, by assumption, by assumption⟩
    · cases h
  · cases h

theorem all_region (hK : HooksOk P K) (hR : RecOk P R) (hdraw : DrawOk P K R) {id : Nat} {opsA : Array Oper} {d : Bool} : AllSpec P K R kept nt (.region id opsA d) := by
  intro r ro ρ H w T ds a g hgood hro hH hT hD h
  simp only [codeAll] at h
  unfold regionAll at h
  split at h
  · rename_i it o rest hnx
    obtain ⟨hops, hop, hgd⟩ := isNext_eq hnx
    split at h
    · rename_i hdist
      simp only [] at h
      split at h
      · rename_i x hx
        split at h
        · rename_i alts hal
          have hcx := opd_outer hT hx
          obtain ⟨v, H1, hmem, hdid⟩ := nextAll_sound (ty := o.type) hH hcx hal
          have hg := altsAll_mem h v H1 hmem
          have hgd' := hgood _ hg
          generalize hso : seqOut (keepC kept nt opsA.toList opsA.toList.length) T ds ((seqC P K opsA.toList rest 1).run R T [v] H1) = out at hg hgd'
          refine wpIn_region ?_
          unfold seqOut at hso
          split at hso
          · rename_i vs H' hs
            unfold keepOut at hso
            split at hso
            · rename_i T' hk
              subst hso
              have hin : Within nt opsA.toList := fun j o d h1 h2 => keepC_within hk j o d (by rw [List.getElem?_eq_some_iff] at h1; exact h1.1) h1 h2
              have hr : List.range opsA.size = List.range' 0 opsA.toList.length := by rw [List.range_eq_range']; simp
              have hsz : opsA.toList.length = rest.length + 1 := by rw [hops]; rfl
              rw [hr, hsz, List.range'_succ]
              have ho0 : opsA.toList[0]? = some o := by rw [hops]; rfl
              have hoA : opsA[0]? = some o := by simpa using ho0
              simp only [wpOpsIn, hoA]
              have hwant : Region.wanted o (yielded opsA a.tmps) = true := by simp [Region.wanted, hgd]
              rw [hwant]
              have hV0 : VRel ρ opsA.toList nt a 0 [] a := ⟨rfl, hT.1, rfl, fun j o d hj => by omega, fun t _ => rfl⟩
              have hl : Lands P ((execOp a.eval o).run P w) (Post P ρ H w v H1) := by
                have := hdid.lands
                simpa only [execOp, hop] using this
              refine wpIn_of_lands ro (fun c hc => by rw [hop] at hc; cases hc) hl ?_
              rintro cv w1 ⟨ρ1, s1, hcv⟩
              refine seq_sound hK hR rfl (distinct_once hdist) hin ro rest 1 [v] H1 w1 ρ1 (a.put o.dst cv) vs H' (by rw [hsz]; omega) (by rw [hops]; rfl) hs s1.rel ((hV0.mono s1.le).step ho0 hcv (distinct_once hdist) hin) (hT.mono s1.le) ?_
              intro ρ' w' a' s2 hV
              exact ⟨_, hg, ρ', s1.trans s2, keep_sound hV (hT.mono (s1.trans s2).le) hk, by rw [hV.defers]; exact hD.mono (s1.trans s2).le⟩
            · subst hso; exact hgd'.elim
          · subst hso; exact hgd'.elim
        · cases h
      · cases h
    · cases h
  · exact all_one (spec_all hK hR hdraw (.region id opsA _)) hgood hro hH hT hD (by simpa only [codeC] using h)

theorem all_seq {x y : Code} (hx : AllSpec P K R kept nt x) (hy : AllSpec P K R kept nt y) : AllSpec P K R kept nt (.seq x y) := by
  intro r ro ρ H w T ds a g hgood hro hH hT hD h
  simp only [codeAll] at h
  refine wpIn_seq ?_
  refine wpIn_mono (hx r ro ρ H w T ds a _ ?_ hro hH hT hD h) ?_
  · intro out ho
    cases out with
    | bad => simp [seqAllK] at ho
    | norm T ds H => trivial
    | ex e T ds H => trivial
  · rintro e a1 w1 ⟨out, ho, hp⟩
    cases out with
    | bad => simp [seqAllK] at ho
    | norm T1 ds1 H1 =>
      obtain ⟨rfl, ρ1, s1, t1, d1⟩ := outPost_norm hp
      exact wpIn_mono (hy r ro ρ1 H1 w1 T1 ds1 a1 g hgood (hro.mono s1.le) s1.rel t1 d1 ho) fun e2 a2 w2 ho2 => ho2.pre s1
    | ex x1 T1 ds1 H1 =>
      exact then_ex (outPost_ex hp).1 ⟨_, ho, hp⟩

theorem all_cond {c : Operand} {x y : Code} (hx : AllSpec P K R kept nt x) (hy : AllSpec P K R kept nt y) : AllSpec P K R kept nt (.cond c x y) := by
  intro r ro ρ H w T ds a g hgood hro hH hT hD h
  simp only [codeAll] at h
  unfold condAllK at h
  split at h <;> rename_i hc
  · have := opd_outer hT hc
    simp only [AV.conc, Option.some.injEq] at this
    exact wpIn_cond_true this.symm (hx r ro ρ H w T ds a g hgood hro hH hT hD h)
  · have := opd_outer hT hc
    simp only [AV.conc, Option.some.injEq] at this
    exact wpIn_cond_false this.symm (hy r ro ρ H w T ds a g hgood hro hH hT hD h)
  · cases h

theorem all_block {id : Nat} {x : Code} (hx : AllSpec P K R kept nt x) : AllSpec P K R kept nt (.block id x) := by
  intro r ro ρ H w T ds a g hgood hro hH hT hD h
  simp only [codeAll] at h
  refine wpIn_block ?_
  refine wpIn_mono (hx r ro ρ H w T ds a _ ?_ hro hH hT hD h) ?_
  · intro out ho
    cases out with
    | bad => exact absurd (hgood _ ho) (by simp [blockK, Out.good])
    | norm T ds H => trivial
    | ex e T ds H => trivial
  · rintro e a1 w1 ⟨out, ho, hp⟩
    cases out with
    | bad => exact absurd (hgood _ ho) (by simp [blockK, Out.good])
    | norm T1 ds1 H1 =>
      obtain ⟨rfl, ho'⟩ := outPost_norm hp
      exact ⟨_, ho, ho'⟩
    | ex x1 T1 ds1 H1 =>
      obtain ⟨he, hxe, hp'⟩ := outPost_ex hp
      rcases hxe with ⟨rfl, rfl⟩ | ⟨i, rfl, rfl⟩ | ⟨i, rfl, rfl⟩
      · exact ⟨_, ho, hp'⟩
      · show if i = id then _ else _
        by_cases e' : i = id
        · subst e'
          have : Nat.beq i i = true := by simp
          simp only [blockK, this] at ho
          simp only [if_true]
          exact ⟨_, ho, hp'⟩
        · have : Nat.beq i id = false := by rw [Bool.eq_false_iff]; intro hb; exact e' (Nat.eq_of_beq_eq_true hb)
          simp only [blockK, this] at ho
          simp only [e', if_false]
          exact ⟨_, ho, rfl, hp'⟩
      · exact ⟨_, ho, rfl, hp'⟩

theorem all_loop {x : Code} (hx : AllSpec P K R kept nt x) : AllSpec P K R kept nt (.loop x) := by
  intro r ro ρ H w T ds a g hgood hro hH hT hD h
  simp only [codeAll] at h
  refine wpIn_loop_rounds loopFuel ?_
  have key : ∀ (n : Nat) (ρ : Env) (H : AHeap) (w : World) (T : Tr AV) (ds : List Nat) (a : Act), RoRel ρ r ro → HRel P ρ H w → TRel ρ kept nt T a.tmps → DRel ρ ds a.defers → loopAllF (codeAll P K kept nt x) R r g n T ds H = true →
      ∀ Q : Exit → Act → World → Prop, (∀ e a' w', AnyPost P ρ H w kept nt g e a' w' → Q e a' w') → Code.roundsIn (fenceOf ro) 0 P x Q n a w := by
    intro n
    induction n with
    | zero => intro ρ H w T ds a _ _ _ _ h; simp [loopAllF] at h
    | succ n ih =>
      intro ρ H w T ds a hro hH hT hD h Q hQ
      simp only [loopAllF] at h
      rw [roundsIn_succ]
      refine wpIn_mono (hx r ro ρ H w T ds a _ ?_ hro hH hT hD h) ?_
      · intro out ho
        cases out with
        | bad => simp [loopAllK] at ho
        | norm T ds H => trivial
        | ex e T ds H => trivial
      · rintro e a1 w1 ⟨out, ho, hp⟩
        cases out with
        | bad => simp [loopAllK] at ho
        | norm T1 ds1 H1 =>
          obtain ⟨rfl, ρ1, s1, t1, d1⟩ := outPost_norm hp
          exact ih ρ1 H1 w1 T1 ds1 a1 (hro.mono s1.le) s1.rel t1 d1 ho Q (fun e a' w' ho' => hQ e a' w' (ho'.pre s1))
        | ex x1 T1 ds1 H1 =>
          exact then_ex (outPost_ex hp).1 (hQ e a1 w1 ⟨_, ho, hp⟩)
  exact key loopFuel ρ H w T ds a hro hH hT hD h _ (fun _ _ _ ho => ho)

theorem all_code (hK : HooksOk P K) (hR : RecOk P R) (hdraw : DrawOk P K R) : ∀ c : Code, AllSpec P K R kept nt c
  | .region _ _ _ => all_region hK hR hdraw
  | .seq x y => all_seq (all_code hK hR hdraw x) (all_code hK hR hdraw y)
  | .cond _ x y => all_cond (all_code hK hR hdraw x) (all_code hK hR hdraw y)
  | .block _ x => all_block (all_code hK hR hdraw x)
  | .loop x => all_loop (all_code hK hR hdraw x)
  | .skip => fun r ro ρ H w T ds a g hgood hro hH hT hD h => all_one (spec_all hK hR hdraw .skip) hgood hro hH hT hD h
  | .label l => fun r ro ρ H w T ds a g hgood hro hH hT hD h => all_one (spec_all hK hR hdraw (.label l)) hgood hro hH hT hD h
  | .rangeFunc f ps x y => fun r ro ρ H w T ds a g hgood hro hH hT hD h => all_one (spec_all hK hR hdraw (.rangeFunc f ps x y)) hgood hro hH hT hD h
  | .exit i => fun r ro ρ H w T ds a g hgood hro hH hT hD h => all_one (spec_all hK hR hdraw (.exit i)) hgood hro hH hT hD h
  | .ret => fun r ro ρ H w T ds a g hgood hro hH hT hD h => all_one (spec_all hK hR hdraw .ret) hgood hro hH hT hD h
  | .scope x => fun r ro ρ H w T ds a g hgood hro hH hT hD h => all_one (spec_all hK hR hdraw (.scope x)) hgood hro hH hT hD h
  | .goto l => fun r ro ρ H w T ds a g hgood hro hH hT hD h => all_one (spec_all hK hR hdraw (.goto l)) hgood hro hH hT hD h
  | .refuse s => fun r ro ρ H w T ds a g hgood hro hH hT hD h => all_one (spec_all hK hR hdraw (.refuse s)) hgood hro hH hT hD h
end Go.Proofs.YtpmildboffolkaaGreat.Abs

namespace Go.Proofs.YtpmildboffolkaaGreat.Abs
variable {P : Program} {K : Hooks} {R : Rec}

theorem funcAll_sound (hK : HooksOk P K) (hR : RecOk P R) (hdraw : DrawOk P K R) (hN : NoGor P) {F : Nat → Option Func} (hF : ∀ f fn, F f = some fn → P.funcs[f]? = some fn) {f : Nat} {args : List AV} {H : AHeap} {good : Res → Bool}
    (hbad : good .bad = false) (h : funcAll P K F f R args H good = true) : ∀ ρ w cargs, HRel P ρ H w → AV.concL ρ args = some cargs →
      (callFunc f cargs.toArray).run P w = .ok (.enter f cargs.toArray) w ∧ CallsIn Fence.wide 0 P f cargs.toArray w fun e w'' => ∃ v H' c, good (.ok v H') = true ∧ e = .returned c ∧ Post P ρ H w v H' c w'' := by
  intro ρ w cargs hH hargs
  unfold funcAll at h
  split at h
  · rename_i fn hfn0
    have hfn := hF f fn hfn0
    split at h
    · rename_i c hbody
      split at h
      · rename_i hle
        have hle' : args.length ≤ fn.ntmps := Nat.le_of_ble_eq_true hle
        have hlen := concL_length hargs
        refine ⟨?_, ?_⟩
        · have hn := hN f fn hfn (by rw [hbody]; rfl)
          have hn' : fn.name ≠ "runtime.NumGoroutine" := by simpa using hn
          simp [callFunc, hfn, hn', hbody, Result.andThen]
        · refine callsIn_of_wp_marks hfn hbody trivial ?_
          have hT : TRel ρ (keptFn fn) fn.ntmps (argsT (keptFn fn) args 0 .nil) (cargs.toArray ++ Array.replicate (fn.ntmps - cargs.toArray.size) undef) := by
            refine argsT_sound hargs ⟨by simp; omega, fun t x hx => ?_⟩ (fun j c hj => ?_)
            · simp [Tr.get_nil] at hx
            · rw [Nat.zero_add, Array.getElem?_append_left (by rw [List.getElem?_eq_some_iff] at hj; simpa using hj.1)]
              simpa using hj
          refine wpIn_mono (all_code hK hR hdraw c none none ρ H w _ [] { tmps := cargs.toArray ++ Array.replicate (fn.ntmps - cargs.toArray.size) undef, defers := [] } _ ?_ trivial hH hT trivial h) ?_
          · intro out ho
            cases out with
            | bad => simp [leaveOut, hbad] at ho
            | norm T ds H => trivial
            | ex e T ds H => trivial
          · rintro e a w1 ⟨out, hg0, ho⟩
            have hg : good (leaveOut (resultsC P fn.results.toList) out) = true := hg0
            clear hg0
            cases out with
            | bad => simp [leaveOut, hbad] at hg
            | norm T1 ds1 H1 =>
              cases hres : leaveOut (resultsC P fn.results.toList) (.norm T1 ds1 H1) with
              | bad => rw [hres, hbad] at hg; cases hg
              | ok v H' =>
                rw [hres] at hg
                simp only [leaveOut] at hres
                obtain ⟨vs, l1, l2, l3⟩ := leaveC_sound hres
                obtain ⟨rfl, ρ1, s1, t1, d1⟩ := outPost_norm ho
                obtain ⟨w2, s2, hl⟩ := drops_sound (fn := fn) (tmps := a.tmps) (Rr := fun e w'' => ∃ v H' c, good (.ok v H') = true ∧ e = .returned c ∧ Post P ρ H w v H' c w'') s1.rel d1 l1
                refine hl ?_
                obtain ⟨rc, r1, r2⟩ := results_sound s2.rel (t1.mono s2.le) l2
                exact ⟨rc, r2, v, H', rc, hg, rfl, ρ1, s1.trans s2, by rw [l3]; exact r1⟩
            | ex x T1 ds1 H1 =>
              cases hres : leaveOut (resultsC P fn.results.toList) (.ex x T1 ds1 H1) with
              | bad => rw [hres, hbad] at hg; cases hg
              | ok v H' =>
                rw [hres] at hg
                cases x with
                | exit i => simp [leaveOut] at hres
                | goto i => simp [leaveOut] at hres
                | ret =>
                  simp only [leaveOut] at hres
                  obtain ⟨vs, l1, l2, l3⟩ := leaveC_sound hres
                  obtain ⟨he, hxe, ρ1, s1, t1, d1⟩ := outPost_ex ho
                  rcases hxe with ⟨_, rfl⟩ | ⟨i, hi, _⟩ | ⟨i, hi, _⟩
                  · obtain ⟨w2, s2, hl⟩ := drops_sound (fn := fn) (tmps := a.tmps) (Rr := fun e w'' => ∃ v H' c, good (.ok v H') = true ∧ e = .returned c ∧ Post P ρ H w v H' c w'') s1.rel d1 l1
                    refine hl ?_
                    obtain ⟨rc, r1, r2⟩ := results_sound s2.rel (t1.mono s2.le) l2
                    exact ⟨rc, r2, v, H', rc, hg, rfl, ρ1, s1.trans s2, by rw [l3]; exact r1⟩
                  · cases hi
                  · cases hi
      · cases h
    · cases h
  · cases h

/-! ## Checkpoints within a larger heap -/
def hasKey (p : Nat) : List (Nat × AEnt) → Bool
  | [] => false
  | (b, _) :: l => or (Nat.beq b p) (hasKey p l)
def noneE : Option AEnt → Bool
  | none => true
  | some _ => false
/-- who may be the same block as one of these is one of these, or gone -/
def linksIn (l0 : List (Nat × AEnt)) (H : AHeap) : List (Nat × AEnt) → Bool
  | [] => true
  | (_, e) :: l => and (match e.lk with | none => true | some p => or (hasKey p l0) (noneE (H.get p))) (linksIn l0 H l)
theorem linksIn_mem {l0 : List (Nat × AEnt)} {H : AHeap} : ∀ {l : List (Nat × AEnt)}, linksIn l0 H l = true → ∀ b e p, (b, e) ∈ l → e.lk = some p → hasKey p l0 = true ∨ H.get p = none
  | (b0, e0) :: l, h, b, e, p, hm, hp => by
    simp only [linksIn, Bool.and_eq_true] at h
    rcases List.mem_cons.1 hm with hm | hm
    · cases hm
      have := h.1
      rw [hp] at this
      simp only [Bool.or_eq_true] at this
      rcases this with h1 | h1
      · exact .inl h1
      · right
        unfold noneE at h1
        split at h1
        · assumption
        · cases h1
    · exact linksIn_mem h.2 b e p hm hp
theorem layL_has : ∀ {l : List (Nat × AEnt)} {t : Tr AEnt} {p : Nat}, (hasKey p l = true ∨ t.get p ≠ none) → (layL l t).get p ≠ none
  | [], t, p, h => by
    rcases h with h | h
    · cases h
    · exact h
  | (b, e) :: l, t, p, h => by
    refine layL_has (l := l) ?_
    by_cases hb : p = b
    · right
      rw [Tr.get_set, if_pos hb]; simp
    · rcases h with h | h
      · left
        simp only [hasKey, Bool.or_eq_true] at h
        rcases h with h | h
        · exact absurd (Nat.eq_of_beq_eq_true h).symm hb
        · exact h
      · right
        rw [Tr.get_set, if_neg hb]; exact h
def dropL : List (Nat × AEnt) → Tr AEnt → Tr AEnt
  | [], t => t
  | (b, _) :: l, t => dropL l (t.set b none)
theorem dropL_get : ∀ {l : List (Nat × AEnt)} {t : Tr AEnt} {b : Nat} {e : AEnt}, (dropL l t).get b = some e → t.get b = some e ∧ ∀ e', (b, e') ∉ l
  | [], _, _, _, h => ⟨h, fun _ h' => by cases h'⟩
  | (b0, e0) :: l, t, b, e, h => by
    obtain ⟨h1, h2⟩ := dropL_get (l := l) h
    rw [Tr.get_set] at h1
    by_cases hb : b = b0
    · rw [if_pos hb] at h1; cases h1
    · rw [if_neg hb] at h1
      refine ⟨h1, fun e' hm => ?_⟩
      rcases List.mem_cons.1 hm with hm | hm
      · cases hm; exact hb rfl
      · exact h2 e' hm
def memoInHook (args0 : List AV) (n0 : Nat) (l0 : List (Nat × AEnt)) (v1 : AV) (n1 : Nat) (l1 : List (Nat × AEnt)) (args : List AV) (H : AHeap) : Res :=
  match and (AV.beqL args args0) (and (Nat.beq H.next n0) (and (agrees l0 H) (linksIn l0 H l0))) with
  | true => .ok v1 ⟨n1, layL l1 (dropL l0 H.tr)⟩
  | false => .bad

/-- more of the heap than a step speaks of, which has no links -/
theorem frame_lone {ρ ρ' : Env} {A A' G G' : AHeap} {w w' : World} (hA : HRel P ρ A w) (hn : G.next = A.next) (hsub : ∀ b e, G.get b = some e → A.get b = some e) (hlone : ∀ b e p, G.get b = some e → e.lk = some p → G.get p ≠ none ∨ A.get p = none) (h : Step P ρ G w ρ' G' w') (hn' : A'.next = G'.next)
    (hA' : ∀ b e, A'.get b = some e → G'.get b = some e ∨ (A.get b = some e ∧ G.get b = none)) : Step P ρ A w ρ' A' w' := by
  have over : ∀ b e c, A.get b = some e → G.get b = none → ρ.blk b = some c → ∀ b0 e0, G.get b0 = some e0 → ρ.blk b0 ≠ some c := by
    intro b e c h1 h2 h4 b0 e0 h5 h6
    rcases hA.sep _ _ _ _ _ h1 (hsub _ _ h5) h4 h6 with e1 | ⟨_, e1⟩
    · subst e1; rw [h2] at h5; cases h5
    · rcases hlone _ _ _ h5 e1 with e2 | e2
      · exact e2 h2
      · rw [h1] at e2; cases e2
  have extra : ∀ b e, A.get b = some e → G.get b = none → ∃ c, ρ.blk b = some c ∧ ρ'.blk b = some c ∧ c < w.heap.size ∧ w'.heap[c]? = w.heap[c]? ∧ (∃ o, w.heap[c]? = some o ∧ ORel P ρ b e.obj o) ∧ ∀ b1 e1, G'.get b1 = some e1 → ρ'.blk b1 ≠ some c := by
    intro b e h1 h2
    obtain ⟨c, o, k1, k2, k3⟩ := hA.obj b e h1
    have hlt : c < w.heap.size := (Array.getElem?_eq_some_iff.1 k2).1
    have hov := over b e c h1 h2 k1
    refine ⟨c, k1, (h.le _ _ k1).1, hlt, h.frame c hlt hov, ⟨o, k2, k3⟩, ?_⟩
    intro b1 e1 h5 h6
    obtain ⟨b0, e0, h7, h8⟩ := h.img b1 e1 c h5 h6 hlt
    exact hov b0 e0 h7 h8
  refine ⟨h.le, ⟨?_, ?_, ?_⟩, by rw [hn']; rw [← hn]; exact h.next, ?_, h.size, ?_, ?_, h.same⟩
  · intro b e hb
    rcases hA' b e hb with h1 | ⟨h1, h2⟩
    · exact h.rel.obj b e h1
    · obtain ⟨c, k1, k2, k3, k4, ⟨o, k5, k6⟩, _⟩ := extra b e h1 h2
      exact ⟨c, o, k2, by rw [k4]; exact k5, k6.mono P h.le k1⟩
  · intro b b' e e' c hb hb' hc hc'
    rcases hA' b e hb with h1 | ⟨h1, h2⟩
    · rcases hA' b' e' hb' with g1 | ⟨g1, g2⟩
      · exact h.rel.sep _ _ _ _ _ h1 g1 hc hc'
      · obtain ⟨c', k1, k2, _, _, _, k7⟩ := extra b' e' g1 g2
        rw [hc'] at k2; cases k2
        exact absurd hc (k7 b e h1)
    · obtain ⟨c0, k1, k2, _, _, _, k7⟩ := extra b e h1 h2
      rw [hc] at k2; cases k2
      rcases hA' b' e' hb' with g1 | ⟨g1, g2⟩
      · exact absurd hc' (k7 b' e' g1)
      · obtain ⟨c', j1, j2, _, _, _, _⟩ := extra b' e' g1 g2
        rw [hc'] at j2; cases j2
        exact hA.sep _ _ _ _ _ h1 g1 k1 j1
  · intro b c hc
    rw [hn']; exact h.rel.fresh b c hc
  · intro b c hc
    rw [← hn]; exact h.news b c hc
  · intro r hr hno
    exact h.frame r hr fun b e hb => hno b e (hsub b e hb)
  · intro b e r hb hr hlt
    rcases hA' b e hb with h1 | ⟨h1, h2⟩
    · obtain ⟨b0, e0, k1, k2⟩ := h.img b e r h1 hr hlt
      exact ⟨b0, e0, hsub _ _ k1, k2⟩
    · obtain ⟨c, k1, k2, _⟩ := extra b e h1 h2
      rw [hr] at k2; cases k2
      exact ⟨b, e, h1, k1⟩

/-- a checkpoint within a larger heap, whatever the order in which maps are gone through -/
theorem memoIn_ok (hK : HooksOk P K) (hR : RecOk P R) (hdraw : DrawOk P K R) (hN : NoGor P) {F : Nat → Option Func} (hF : ∀ f fn, F f = some fn → P.funcs[f]? = some fn) {f : Nat} {args0 : List AV} {n0 n1 : Nat} {l0 l1 : List (Nat × AEnt)} {v1 : AV}
    (hrun : funcAll P K F f R args0 (heapL n0 l0) (memoGood v1 n1 l1) = true) : ExtOk P f (memoInHook args0 n0 l0 v1 n1 l1) := by
  intro args H v H' h ρ w cargs hH hargs
  unfold memoInHook at h
  split at h
  · rename_i hc
    cases h
    simp only [Bool.and_eq_true] at hc
    obtain ⟨c1, c2, c3, c4⟩ := hc
    have ha := AV.beqL_eq c1
    subst ha
    have hn : H.next = n0 := Nat.eq_of_beq_eq_true c2
    have hsub : ∀ b e, (heapL n0 l0).get b = some e → H.get b = some e := fun b e hb => agrees_get c3 b e (heapL_get hb)
    have hG : HRel P ρ (heapL n0 l0) w := hH.sub (by simp [heapL, hn]) hsub
    obtain ⟨k1, k2⟩ := funcAll_sound hK hR hdraw hN hF rfl hrun ρ w cargs hG hargs
    rw [k1]
    show CallsIn _ _ _ _ _ _ _
    refine CallsIn.mono k2 ?_
    rintro e w2 ⟨v2, H2, c, hg, rfl, ρ', s, hv⟩
    simp only [memoGood, Bool.and_eq_true] at hg
    obtain ⟨r1, r2, r3⟩ := hg
    have hv2 := AV.beq_eq r1
    subst hv2
    refine ⟨c, rfl, ρ', ?_, hv⟩
    refine frame_lone hH (by simp [heapL, hn]) hsub (fun b e p hb hp => by
      rcases linksIn_mem c4 b e p (heapL_get hb) hp with h1 | h1
      · exact .inl (layL_has (.inl h1))
      · exact .inr h1) s (by simp [Nat.eq_of_beq_eq_true r2]) ?_
    intro b e hb
    rcases layL_get (l := l1) (t := dropL l0 H.tr) hb with h1 | h1
    · exact .inl (agrees_get r3 b e h1)
    · obtain ⟨g1, g2⟩ := dropL_get h1
      refine .inr ⟨g1, ?_⟩
      cases hq : (heapL n0 l0).get b with
      | none => rfl
      | some e' => exact absurd (heapL_get hq) (g2 e')
  · cases h
end Go.Proofs.YtpmildboffolkaaGreat.Abs

namespace Go.Proofs.YtpmildboffolkaaGreat.Abs
variable {P : Program}
/-! ## One summary or another -/
def orHook (h k : List AV → AHeap → Res) (args : List AV) (H : AHeap) : Res :=
  match h args H with
  | .ok v H' => .ok v H'
  | .bad => k args H
theorem or_ok {f : Nat} {h k : List AV → AHeap → Res} (hh : ExtOk P f h) (hk : ExtOk P f k) : ExtOk P f (orHook h k) := by
  intro args H v H' hr ρ w cargs hH hargs
  unfold orHook at hr
  split at hr
  · rename_i v1 H1 h1
    cases hr
    exact hh args H _ _ h1 ρ w cargs hH hargs
  · exact hk args H v H' hr ρ w cargs hH hargs
/-- a call without arguments -/
theorem no_args {R : Rec} (hR : RecOk P R) {f : Nat} {b : Bool} (hrun : isRet b (R.call f [] ⟨0, .nil⟩) = true) (w : World) :
    Calls P f #[] w fun e w' => e = .returned (.bool b) ∧ Go.RowKit.Below w.heap.size w w' := by
  obtain ⟨H2, hc⟩ := isRet_eq hrun
  obtain ⟨k1, k2⟩ := hR.call _ _ _ _ _ hc _ w [] (hrel_none w) rfl
  refine Calls.mono (callsIn_wide.1 k2) ?_
  rintro e w2 ⟨c, rfl, ρ', s, hv⟩
  have hc' : c = .bool b := by
    have : (AV.bool b).conc ρ' = some (.bool b) := rfl
    rw [this] at hv; exact (Option.some.inj hv).symm
  subst hc'
  exact ⟨rfl, below_of_step s⟩
end Go.Proofs.YtpmildboffolkaaGreat.Abs

namespace Go.Proofs.YtpmildboffolkaaGreat.Abs
open Go.RowKit
variable {P : Program}
/-! ## A closed call on whatever values that lead nowhere -/
theorem any_args {R : Rec} (hR : RecOk P R) {f : Nat} {b : Bool} {xs : List AV} {cs : List Value} (hrun : isRet b (R.call f xs ⟨0, .nil⟩) = true) (hx : AV.concL (Env.lone none) xs = some cs) (w : World) :
    Calls P f cs.toArray w fun e w' => e = .returned (.bool b) ∧ Below w.heap.size w w' := by
  obtain ⟨H2, hc⟩ := isRet_eq hrun
  obtain ⟨k1, k2⟩ := hR.call _ _ _ _ _ hc _ w cs (hrel_none w) hx
  refine Calls.mono (callsIn_wide.1 k2) ?_
  rintro e w2 ⟨c, rfl, ρ', s, hv⟩
  have hc' : c = .bool b := by
    have : (AV.bool b).conc ρ' = some (.bool b) := rfl
    rw [this] at hv; exact (Option.some.inj hv).symm
  subst hc'
  exact ⟨rfl, below_of_step s⟩
/-- a string is one of the interpreter's -/
theorem str_av (s : ByteArray) (ρ : Env) : ∃ l n, (AV.str l n).conc ρ = some (.string s) := by
  refine ⟨s.data.toList.length, packL s.data.toList 0, ?_⟩
  have h1 := packL_lt s.data.toList 0 0 (pw_pos 0)
  have h2 := bytesL_packL s.data.toList 0 0 (pw_pos 0)
  simp only [Nat.zero_add] at h1 h2
  have h3 : bytesL 0 0 = [] := rfl
  rw [h3, List.nil_append] at h2
  simp only [AV.conc]
  rw [if_pos h1, h2]
end Go.Proofs.YtpmildboffolkaaGreat.Abs
