/-
  slices.Insert, slices.Equal, codec.Crc, checkpoints and closed calls: what they come to is sound; the conditions stand in each theorem.
-/
import Derived.Test.YtbepgibkcmmfeaaGreatAbs5
import Derived.Shelf.Spec.SlicesInsertGrow
import Derived.Shelf.SlicesE.Equal
import Derived.Test.YtbepgibkcmmfeaaGreatAbs4
import Derived.Test.YtbepgibkcmmfeaaGreatAbs1
import Derived.Below
set_option linter.unusedVariables false
set_option linter.unusedSimpArgs false
namespace Go.Proofs.YtbepgibkcmmfeaaGreat.Abs
open Go.Shelf Go.Proofs
variable {P : Program}

/-! ## slices.Insert of strings -/
theorem setCells_row {cb e : Nat} {fz : Nat × Nat} : ∀ (vs : List Value) (o : Nat) (arr : Array Value) (w : World), w.heap[cb]? = some (.cells arr e fz) → o + vs.length ≤ arr.size →
    w.setCells cb o vs = w.setRow cb (arr.toList.take o ++ vs ++ arr.toList.drop (o + vs.length)).toArray
  | [], o, arr, w, hg, hl => by
    simp only [World.setCells, List.append_nil, List.length_nil, Nat.add_zero, List.take_append_drop, Array.toArray_toList]
    rw [setRow_self w cb arr e fz hg]
  | v :: r, o, arr, w, hg, hl => by
    rw [World.setCells, setCell_eq_setRow w cb o arr e fz v hg]
    rw [setCells_row r (o + 1) (arr.setIfInBounds o v) _ (setRow_heap w cb arr _ e fz hg) (by simp at hl ⊢; omega), setRow_setRow]
    congr 2
    have e1 := list_seg_step arr.toList o v r (by simp at hl ⊢; omega)
    simpa [Array.toList_setIfInBounds, Nat.add_assoc] using e1

theorem drew_heap (w : World) : w.drew.heap = w.heap := rfl

theorem run_enter {f : Nat} {fn : Func} {c : Code} (hfn : P.funcs[f]? = some fn) (hn : (fn.name == "runtime.NumGoroutine") = false) (hb : fn.body = some c) (args : Array Value) (w : World) : (callFunc f args).run P w = .ok (.enter f args) w := by
  have hn' : fn.name ≠ "runtime.NumGoroutine" := by simpa using hn
  simp [callFunc, hfn, hn', hb, Result.andThen]

theorem insert_ok {rn : Ren} (L : Lays2.n22 P rn) : ExtOk P (rn.f 22) (hookInsert P (rn.f 22)) := by
  intro args H v H' h ρ w cargs hH hargs
  have henter := run_enter L.f22 (by rfl) (c := (Body2.n22 rn).body.get rfl) (by rfl) cargs.toArray w
  rw [henter]
  show CallsIn _ _ _ _ _ _ _
  rw [callsIn_wide]
  have hh : insertHook P (rn.t 24) args H = .ok v H' := by
    unfold hookInsert at h
    rw [L.f22] at h
    exact h
  clear h henter
  unfold insertHook at hh
  split at hh
  · rename_i s i v0
    split at hh
    · rename_i e b n b' o' m vcap hst hs hv
      have he : e = rn.t 9 := by
        have := sliT_eq hst
        rw [L.t24] at this
        cases this; rfl
      subst he
      split at hh
      · rename_i hc
        simp only [Bool.and_eq_true, Bool.not_eq_true'] at hc
        obtain ⟨c1, c2, c3, c4, c5⟩ := hc
        have hi : i < n := by simpa [Nat.blt_eq] using c1
        have hm : 0 < m := by simpa [Nat.blt_eq] using c2
        have hnm : n + m ≤ 1000000 := Nat.le_of_ble_eq_true c3
        have hbb : b ≠ b' := by intro e'; subst e'; simp at c4
        split at hh
        · rename_i c a1 a2 q0 e' lk hrc hra1 hra2 hrow
          split at hh
          · rename_i hee
            have hee' : rn.t 9 = e' := Nat.eq_of_beq_eq_true hee
            subst hee'
            obtain ⟨x, xs, h1, h2, rfl⟩ := concL_cons.1 hargs
            obtain ⟨y, ys, h3, h4, rfl⟩ := concL_cons.1 h2
            obtain ⟨z, zs, h5, h6, rfl⟩ := concL_cons.1 h4
            simp [AV.concL] at h6
            subst h6
            cases h3
            rw [asSlice_eq hs] at h1
            rw [asSlice_eq hv] at h5
            obtain ⟨cb, cap, k1, rfl, k2, k3⟩ := conc_slice h1
            obtain ⟨cv, vc, l1, rfl, l2, l3⟩ := conc_slice h5
            obtain ⟨k4, k5⟩ := k3
            simp only [Nat.sub_zero] at k5
            subst k5
            -- the rows
            obtain ⟨cb0, arr, fz, vs, rs, hg, q1, q2, q3, q4, q5, _⟩ := hH.row hrow
            rw [k1] at q1; cases q1
            have hbyte : byteT P (rn.t 9) = false := by simp [byteT, u8T, L.t9, u8D, arrD]
            have hfz := q3.plain hbyte
            subst hfz
            have hsz1 : sizeT P (rn.t 9) = some 1 := by
              have := L.i9
              cases hi9 : P.info? (rn.t 9) with
              | none => rw [hi9] at this; cases this
              | some i0 => rw [hi9] at this; simp at this; simp [sizeT, hi9, this.2.1]
            obtain ⟨zz, hz1, hz2⟩ := q3.size rfl
            rw [hsz1] at hz1
            have hzz : zz = 0 := by simpa using hz1.symm
            subst hzz
            simp only [Nat.zero_add, Nat.mul_one] at hz2
            -- v's row
            unfold loneRow at c5
            split at c5
            · rename_i ls el op hgv
              obtain ⟨cv', ov, a1', a2', varr, vfz, rfl, ra⟩ := hH.obj b' _ hgv
              rw [l1] at a1'; cases a1'
              have hcc : cv ≠ cb := by
                intro e'; subst e'
                rcases hH.sep _ _ _ _ _ hgv hg l1 k1 with e1 | ⟨e1, _⟩
                · exact hbb e1.symm
                · cases e1
              have hvfz : vfz = (0, 0) := ra.plain (by rw [← ra.kind]; rfl)
              subst hvfz
              obtain ⟨cv2, xs, x1, x2, x3, x4⟩ := readPart_sound hH hrc
              rw [l1] at x1; cases x1
              obtain ⟨cb2, p1, y1, y2, y3, y4⟩ := readPart_sound hH hra1
              rw [k1] at y1; cases y1
              obtain ⟨cb3, p2, z1, z2, z3, z4⟩ := readPart_sound hH hra2
              rw [k1] at z1; cases z1
              have x3' : xs.length = m := x3
              have y3' : p1.length = i := y3
              have z3' : p2.length = n - i := z3
              have hpl : (p1 ++ p2).length = n := by rw [List.length_append, y3', z3']; omega
              have hcs : ∀ j v, (p1 ++ p2)[j]? = some v → w.cell? ⟨cb, 0 + j, none⟩ = some v := by
                intro j v hj
                by_cases hji : j < i
                · rw [List.getElem?_append_left (by omega)] at hj
                  exact y4 j v hj
                · rw [List.getElem?_append_right (by omega), y3'] at hj
                  have := z4 (j - i) v hj
                  rw [show i + (j - i) = 0 + j by omega] at this
                  exact this
              have hvs : ∀ j v, xs[j]? = some v → w.cell? ⟨cv, o' + j, none⟩ = some v := x4
              have h1c : ∀ v ∈ p1 ++ p2, v.oneCell' = true := by
                intro v hv
                rcases List.mem_append.1 hv with hv | hv
                · exact concC_one y2 v hv
                · exact concC_one z2 v hv
              have h1v : ∀ v ∈ xs, v.oneCell' = true := concC_one x2
              -- what the summary tells
              obtain ⟨r, u1, rfl, rfl⟩ := unsure_eq hh
              obtain ⟨u2, u3⟩ := Chunk.asRow_conc (Chunk.cat_conc (Chunk.cat_conc y2 x2) z2) u1
              have hfree := hH.free_next
              have hk1 : a1.isBytes = byteT P (rn.t 9) := by
                have hp : readPart H b 0 i = some a1 := hra1
                unfold readPart at hp
                rw [hrow] at hp
                rw [Chunk.part_isBytes hp]; exact q3.kind
              have hcap63 := ρ.ok b
              have hpre : arr.toList.take n = p1 ++ p2 := by
                apply List.ext_getElem?
                intro j
                rw [List.getElem?_take]
                split
                · rename_i hj
                  have hlt : j < (p1 ++ p2).length := by omega
                  have := hcs j _ (List.getElem?_eq_getElem hlt)
                  rw [cell_of w q2, Nat.zero_add] at this
                  rw [this, List.getElem?_eq_getElem hlt]
                · rename_i hj
                  rw [List.getElem?_eq_none (by omega)]
              have hp1 : arr.toList.take i = p1 := by
                have e0 : arr.toList.take i = (arr.toList.take n).take i := by rw [List.take_take, Nat.min_eq_left (by omega)]
                rw [e0, hpre, List.take_append_of_le_length (by omega), List.take_of_length_le (by omega)]
              by_cases hroom : n + m ≤ ρ.cap b
              · have hC := Any2.slices_Insert_string_shift L cb 0 n (ρ.cap b) i cv o' m vc (p1 ++ p2) xs w hi hm hroom hcap63 hcc hpl x3' hcs
                  (fun j hj => by rw [cell_of w q2, List.getElem?_eq_getElem (by rw [Array.length_toList, hz2]; omega)]; rfl) (fun j hj => by simp [World.frozen?, q2]) hvs h1c h1v el (rn.t 9) varr.size arr.size
                  (by simp [World.shape?, a2']) (by simp [World.shape?, q2]) (by rw [hz2]; omega) (by simp [World.frozen?, a2']) (by simp [World.frozen?, a2'])
                refine Calls.mono hC ?_
                rintro e2 w2 ⟨rfl, rfl⟩
                refine ⟨_, rfl, ?_⟩
                have hdrop : (p1 ++ p2).drop i = p2 := by rw [List.drop_append_of_le_length (by omega), List.drop_of_length_le (by omega), List.nil_append]
                rw [hdrop]
                simp only [Nat.zero_add]
                rw [setCells_row p2 (i + m) arr w.drew q2 (by rw [hz2, z3']; omega)]
                rw [setCells_row xs i _ _ (setRow_heap w.drew cb arr _ (rn.t 9) (0, 0) q2) (by
                  simp only [List.size_toArray, List.length_append, List.length_take, List.length_drop, Array.length_toList]; omega)]
                rw [setRow_setRow]
                generalize hA : (List.take i (List.take (i + m) arr.toList ++ p2 ++ List.drop (i + m + p2.length) arr.toList).toArray.toList ++ xs ++
                  List.drop (i + xs.length) (List.take (i + m) arr.toList ++ p2 ++ List.drop (i + m + p2.length) arr.toList).toArray.toList) = A
                have hAeq : A = p1 ++ xs ++ p2 ++ arr.toList.drop (n + m) := by
                  rw [← hA]
                  have e1 : i ≤ (arr.toList.take (i + m)).length := by rw [List.length_take, Array.length_toList]; omega
                  have e2 : (arr.toList.take (i + m)).length = i + m := by rw [List.length_take, Array.length_toList]; omega
                  simp only [List.append_assoc]
                  rw [List.take_append_of_le_length e1, List.take_take, Nat.min_eq_left (by omega), hp1, x3', List.drop_append_of_le_length (by omega), List.drop_of_length_le (by omega), List.nil_append, z3']
                  rw [show i + m + (n - i) = n + m by omega]
                have hAl : A.length = arr.size := by
                  rw [hAeq]; simp only [List.length_append, List.length_drop, Array.length_toList, y3', x3', z3']; omega
                have hcapb : (ρ.ext H.next cb (ρ.cap b)).cap H.next = ρ.cap b := Env.ext_cap _ _ _ _ hcap63
                have hle' := Env.le_ext ρ H.next cb (ρ.cap b) hfree
                refine ⟨ρ.ext H.next cb (ρ.cap b), pair_step hH hg k1 hle' (by simp) (fun q hq => Env.ext_other _ _ _ hq) (.inl rfl) (by simp [drew_heap]) (setRow_heap w.drew cb arr _ (rn.t 9) (0, 0) q2) (setRow_heap w.drew cb arr _ (rn.t 9) (0, 0) q2)
                      (fun q _ hq => by rw [setRow_other w.drew cb q _ hq]; rfl) ⟨rfl, rfl, rfl⟩ ?_ ?_, ?_⟩
                · refine ⟨_, (0, 0), rfl, ⟨⟨_, concC_mono hle' y2, fun hh => (by cases hh), fun _ => ⟨xs ++ p2 ++ arr.toList.drop (n + m), ?_⟩⟩, fun _ => ⟨0, hsz1, ?_⟩, hk1, fun _ => rfl, ?_⟩⟩
                  · rw [hAeq]; simp only [List.append_assoc]
                  · rw [List.size_toArray, hAl, (hle' _ _ k1).2, hz2]; simp
                  · intro off' ho' hh'; simp at hh'
                · refine ⟨_, (0, 0), rfl, ⟨⟨_, concC_mono hle' u2, fun hh => (by cases hh), fun _ => ⟨arr.toList.drop (n + m), ?_⟩⟩, fun _ => ⟨0, hsz1, ?_⟩, by rw [u3, hbyte], fun _ => rfl, ?_⟩⟩
                  · rw [hAeq]
                  · rw [List.size_toArray, hAl, hcapb, hz2]; simp
                  · intro off' ho' hh'; simp at hh'
                · show (AV.slice H.next 0 (n + m) (.rest 0)).conc _ = _
                  simp [AV.conc, hroom, hcapb]
              · have hC := Any2.slices_Insert_string_grow L cb 0 n (ρ.cap b) i cv o' m vc (p1 ++ p2) xs w hi hm k2 (by omega) (by omega) hpl x3' hcs hvs h1c h1v
                refine Calls.mono hC ?_
                rintro e2 w2 ⟨rfl, rfl⟩
                refine ⟨_, rfl, ?_⟩
                have hdrop : (p1 ++ p2).drop i = p2 := by rw [List.drop_append_of_le_length (by omega), List.drop_of_length_le (by omega), List.nil_append]
                have htake : (p1 ++ p2).take i = p1 := by rw [List.take_append_of_le_length (by omega), List.take_of_length_le (by omega)]
                rw [hdrop, htake]
                have hgc : n + m ≤ grownCap w (n + m) (ρ.cap b) (rn.t 9) := grownCap_ge _ _ _ _
                have hcap2 := Env.ext_cap ρ H.next w.heap.size _ (grownCap_bound (w := w) (need := n + m) (old := ρ.cap b) (e := rn.t 9) (by omega))
                generalize grownCap w (n + m) (ρ.cap b) (rn.t 9) = G at hgc hcap2 ⊢
                have hle' := Env.le_ext ρ H.next w.heap.size G hfree
                have hzc : ∀ k, (Builtin.zeroCells (Value.string ⟨#[]⟩).cells k).toList = List.replicate k (Value.string ⟨#[]⟩) := by
                  intro k
                  simp only [Builtin.zeroCells, Value.cells]
                  apply List.ext_getElem
                  · simp
                  · intro j h1 h2; simp [Nat.mod_one]
                generalize hR : (p1.toArray ++ Builtin.zeroCells (Value.string ⟨#[]⟩).cells (n + m - i) ++ Builtin.zeroCells (Value.string ⟨#[]⟩).cells (G - (n + m))) = R
                have hRl : R.toList = p1 ++ (List.replicate (n + m - i) (Value.string ⟨#[]⟩) ++ List.replicate (G - (n + m)) (Value.string ⟨#[]⟩)) := by
                  rw [← hR]; simp only [Array.toList_append, hzc, List.append_assoc]
                have hRs : R.size = G := by
                  rw [← Array.length_toList, hRl]; simp only [List.length_append, List.length_replicate, y3']; omega
                have hnew : (w.alloc (.cells R (rn.t 9))).drew.heap[w.heap.size]? = some (.cells R (rn.t 9) (0, 0)) := by
                  rw [drew_heap]; exact heap_alloc_new _ _
                rw [setCells_row xs i R _ hnew (by rw [hRs, x3']; omega)]
                have hnew2 : ((w.alloc (.cells R (rn.t 9))).drew.setRow w.heap.size (R.toList.take i ++ xs ++ R.toList.drop (i + xs.length)).toArray).drew.heap[w.heap.size]? = some (.cells (R.toList.take i ++ xs ++ R.toList.drop (i + xs.length)).toArray (rn.t 9) (0, 0)) := by
                  rw [drew_heap]; exact setRow_heap _ _ _ _ _ _ hnew
                rw [setCells_row p2 (i + m) _ _ hnew2 (by
                  simp only [List.size_toArray, List.length_append, List.length_take, List.length_drop, Array.length_toList, hRs, x3', z3']; omega)]
                have hT : R.toList.take i = p1 := by rw [hRl, List.take_append_of_le_length (by omega), List.take_of_length_le (by omega)]
                have hD : R.toList.drop (i + m) = List.replicate (n - i) (Value.string ⟨#[]⟩) ++ List.replicate (G - (n + m)) (Value.string ⟨#[]⟩) := by
                  rw [hRl, List.drop_append, List.drop_of_length_le (by omega), List.nil_append, y3', List.drop_append_of_le_length (by rw [List.length_replicate]; omega), List.drop_replicate]
                  congr 2; omega
                simp only [hT, x3', hD, z3', List.toList_toArray]
                have hF : List.take (i + m) (p1 ++ xs ++ (List.replicate (n - i) (Value.string ⟨#[]⟩) ++ List.replicate (G - (n + m)) (Value.string ⟨#[]⟩))) ++ p2 ++
                    List.drop (i + m + (n - i)) (p1 ++ xs ++ (List.replicate (n - i) (Value.string ⟨#[]⟩) ++ List.replicate (G - (n + m)) (Value.string ⟨#[]⟩))) = (p1 ++ xs ++ p2) ++ List.replicate (G - (n + m)) (Value.string ⟨#[]⟩) := by
                  have e1 : (p1 ++ xs).length = i + m := by rw [List.length_append, y3', x3']
                  rw [List.take_append_of_le_length (by omega), List.take_of_length_le (by omega)]
                  rw [List.drop_append, List.drop_of_length_le (by omega), List.nil_append, e1, List.drop_append, List.drop_of_length_le (by rw [List.length_replicate]; omega), List.nil_append, List.length_replicate]
                  rw [show i + m + (n - i) - (i + m) - (n - i) = 0 by omega, List.drop_zero]
                rw [hF]
                have hcblt : cb < w.heap.size := (Array.getElem?_eq_some_iff.1 q2).1
                refine ⟨ρ.ext H.next w.heap.size G, pair_step (obj := .cells arr (rn.t 9)) (objn := .cells ((p1 ++ xs ++ p2) ++ List.replicate (G - (n + m)) (Value.string ⟨#[]⟩)).toArray (rn.t 9))
                      hH hg k1 hle' (by simp) (fun q hq => Env.ext_other _ _ _ hq) (.inr (Nat.le_refl _)) ?_ ?_ ?_
                      (fun q hq _ => ?_) ⟨rfl, rfl, rfl⟩ ?_ ?_, ?_⟩
                · simp [drew_heap, World.setRow]
                · rw [setRow_other _ _ _ _ (by omega), drew_heap, setRow_other _ _ _ _ (by omega), drew_heap, heap_alloc_old _ _ hcblt]; exact q2
                · simp only [hT, x3', hD] at hnew2
                  exact setRow_heap _ _ _ _ _ _ hnew2
                · rw [setRow_other _ _ _ _ (by omega), drew_heap, setRow_other _ _ _ _ (by omega), drew_heap, heap_alloc_old _ _ hq]
                · refine ⟨arr, (0, 0), rfl, ⟨⟨_, concC_mono hle' y2, fun hh => (by cases hh), fun _ => ⟨arr.toList.drop i, ?_⟩⟩, fun _ => ⟨0, hsz1, ?_⟩, hk1, fun _ => rfl, ?_⟩⟩
                  · rw [← hp1, List.take_append_drop]
                  · rw [(hle' _ _ k1).2, hz2]; simp
                  · intro off' ho' hh'; simp at hh'
                · refine open_row (z := 0) (n := n + m) (cap := G) (zv := Value.string ⟨#[]⟩) (vs := p1 ++ xs ++ p2) hcap2 hsz1 (by rfl) (concC_mono hle' u2) (by rw [u3, hbyte]) ?_ hgc _ ?_
                  · simp only [List.length_append, y3', x3', z3']; omega
                  · rw [hzc]
                · show (AV.slice H.next 0 (n + m) (.rest 0)).conc _ = _
                  simp [AV.conc, hgc, hcap2]
            · cases c5
          · cases hh
        · cases hh
      · cases hh
    · cases hh
  · cases hh
end Go.Proofs.YtbepgibkcmmfeaaGreat.Abs

namespace Go.Proofs.YtbepgibkcmmfeaaGreat.Abs
open Go.Shelf Go.Proofs
variable {P : Program}

/-! ## slices.Equal of bytes -/
def encB (b : UInt8) : Value := .int .u8 (b.toNat : Int)
instance : Inhabited UInt8 := ⟨0⟩

theorem encB_neq (P : Program) (T : TypeId) : NeqAt P T encB (fun x y => x == y) := by
  refine ⟨fun x y w => ?_, fun op a b x y w => GuardAt.int P T .u8 op a b _ _ w⟩
  have h := (NeqAt.int P T .u8).1 (x.toNat : Int) (y.toNat : Int) w
  refine h.trans ?_
  congr 3
  by_cases e : x = y
  · subst e; simp
  · have : ¬ (x.toNat : Int) = (y.toNat : Int) := fun h => e (UInt8.toNat_inj.1 (Int.ofNat_inj.1 h))
    have h1 : (x == y) = false := by simpa using e
    have h2 : ((x.toNat : Int) == (y.toNat : Int)) = false := by simpa using this
    show ((x.toNat : Int) == (y.toNat : Int)) = (x == y)
    rw [h1, h2]

theorem allEq_beq : ∀ (xs ys : List UInt8), Lib.allEq (fun x y => x == y) xs ys = (xs == ys)
  | [], [] => rfl
  | [], _ :: _ => rfl
  | _ :: _, [] => rfl
  | x :: xs, y :: ys => by
    rw [Lib.allEq, allEq_beq xs ys]; rfl

theorem enters_run {f : Nat} (h : Enters P f) (args : Array Value) (w : World) : (callFunc f args).run P w = .ok (.enter f args) w := h args w

theorem equal_ok {rn : Ren} (L : SlLaysE.n33 P rn) : ExtOk P (rn.f 33) equalHook := by
  intro args H v H' h ρ w cargs hH hargs
  have hbody : (SlBodyN.n33 rn).body = some ((SlBodyN.n33 rn).body.get rfl) := rfl
  rw [enters_run (L.f33.enters hbody)]
  show CallsIn _ _ _ _ _ _ _
  rw [callsIn_wide]
  unfold equalHook at h
  split at h
  · rename_i b o n cap b' o' m cap'
    split at h
    · rename_i hc
      simp only [Bool.and_eq_true] at hc
      have hn : n ≤ capBound := Nat.le_of_ble_eq_true hc.1
      have hm : m ≤ capBound := Nat.le_of_ble_eq_true hc.2
      split at h
      · rename_i x y hx hy
        split at h
        · rename_i la a lb c
          cases h
          obtain ⟨x1, xs, h1, h2, rfl⟩ := concL_cons.1 hargs
          obtain ⟨y1, ys, h3, h4, rfl⟩ := concL_cons.1 h2
          simp [AV.concL] at h4
          subst h4
          obtain ⟨cb, cn, k1, rfl, _, _⟩ := conc_slice h1
          obtain ⟨cb', cn', l1, rfl, _, _⟩ := conc_slice h3
          obtain ⟨cb0, vs, g1, g2, g3, g4⟩ := readPart_sound hH hx
          rw [k1] at g1; cases g1
          obtain ⟨cb0', vs', j1, j2, j3, j4⟩ := readPart_sound hH hy
          rw [l1] at j1; cases j1
          obtain ⟨p1, rfl⟩ := concC_bytes.1 g2
          obtain ⟨p2, rfl⟩ := concC_bytes.1 j2
          have e1 : la = n := by simpa using g3
          have e2 : lb = m := by simpa using j3
          subst e1 e2
          have hC := AnyE.slices_Equal L encB (fun x y => x == y) (encB_neq P _) cb o la cn cb' o' lb cn' (bytesL la a) (bytesL lb c) w (by simp) (by simp)
            (Nat.le_trans hn (by decide)) (Nat.le_trans hm (by decide))
            (fun j hj => g4 j _ (by
              rw [List.getElem?_map, List.getElem?_eq_getElem hj]
              simp only [Option.map_some, Option.some.injEq]
              rw [getElem!_pos (bytesL la a) j hj]; rfl))
            (fun j hj => j4 j _ (by
              rw [List.getElem?_map, List.getElem?_eq_getElem hj]
              simp only [Option.map_some, Option.some.injEq]
              rw [getElem!_pos (bytesL lb c) j hj]; rfl))
          refine Calls.mono hC ?_
          rintro e2 w2 ⟨rfl, q, rfl⟩
          refine ⟨_, rfl, ρ, Step.heap_eq hH rfl ⟨rfl, rfl, rfl⟩, ?_⟩
          rw [allEq_beq, List.take_of_length_le (by simp), List.take_of_length_le (by simp)]
          show some _ = some _
          congr 2
          rw [Bool.eq_iff_iff]
          simp only [Bool.and_eq_true, beq_iff_eq]
          constructor
          · rintro ⟨i1, i2⟩
            have i1' := Nat.eq_of_beq_eq_true i1
            have i2' := Nat.eq_of_beq_eq_true i2
            subst i1' i2'; rfl
          · intro i
            obtain ⟨i1, i2⟩ := bytesL_inj p1 p2 i
            subst i1 i2
            simp
        · cases h
      · cases h
    · cases h
  · cases h
end Go.Proofs.YtbepgibkcmmfeaaGreat.Abs

namespace Go.Proofs.YtbepgibkcmmfeaaGreat.Abs
variable {P : Program} {K : Hooks}
theorem regionU_eq {kept nt : Nat} {ops : List Oper} {draw : Bool} (h : regOk ops draw = true) : regionU P K kept nt ops draw = regionC P K kept nt ops draw := by
  cases draw with
  | false => simp only [regOk] at h; simp only [regionU, regionC, h]
  | true => simp only [regOk] at h; simp only [regionU, regionC, h]
theorem codeU_eq {kept nt : Nat} : ∀ (c : Code), codeOkU c = true → codeU P K kept nt c = codeC P K kept nt c
  | .skip, _ => rfl
  | .label _, _ => rfl
  | .region _ ops d, h => by
    simp only [codeOkU] at h
    simp only [codeU, codeC]
    exact regionU_eq h
  | .seq a b, h => by
    simp only [codeOkU, Bool.and_eq_true] at h
    simp only [codeU, codeC, codeU_eq a h.1, codeU_eq b h.2]
  | .cond c a b, h => by
    simp only [codeOkU, Bool.and_eq_true] at h
    simp only [codeU, codeC, codeU_eq a h.1, codeU_eq b h.2]
  | .block _ b, h => by
    simp only [codeOkU] at h
    simp only [codeU, codeC, codeU_eq b h]
  | .loop b, h => by
    simp only [codeOkU] at h
    simp only [codeU, codeC, codeU_eq b h]
  | .rangeFunc .., _ => rfl
  | .exit _, _ => rfl
  | .ret, _ => rfl
  | .scope _, _ => rfl
  | .goto _, _ => rfl
  | .refuse _, _ => rfl

variable {F : Nat → Option Func}
theorem funcU_eq (hF : ∀ f fn, F f = some fn → P.funcs[f]? = some fn) (hU : ∀ f fn, F f = some fn → fnOkU fn = true) {R : Rec} {f : Nat} {args : List AV} {H : AHeap} {v : AV} {H' : AHeap}
    (h : (funcU P K F f).run R args H = .ok v H') : (funcC P K f).run R args H = .ok v H' := by
  unfold funcU at h
  split at h
  · rename_i fn hfn
    have h1 := hF f fn hfn
    have h2 := hU f fn hfn
    unfold funcC
    rw [h1]
    simp only []
    split at h
    · rename_i c hc
      simp only [fnOkU, hc] at h2
      rw [codeU_eq c h2] at h
      simp only [hc]
      exact h
    · cases h
  · cases h

theorem runU_ok (hK : HooksOk P K) (hdraw : ∀ R, RecOk P R → DrawOk P K R) (hN : NoGor P) (hF : ∀ f fn, F f = some fn → P.funcs[f]? = some fn) (hU : ∀ f fn, F f = some fn → fnOkU fn = true) : ∀ n, RecOk P (runU P K F n)
  | 0 => ⟨fun f args H v H' h => (by cases h), fun kept nt c l T H h => h.elim⟩
  | n + 1 => by
    have ih := runU_ok hK hdraw hN hF hU n
    refine ⟨?_, ?_⟩
    · intro f args H v H' h
      exact funcC_sound hK ih (hdraw _ ih) hN f args H v H' (funcU_eq hF hU h)
    · intro kept nt c l T H hg ρ w cl a hH hcl hT hd
      exact spec_all hK ih (hdraw _ ih) c (some l) (some cl) ρ H w T [] a _ hcl hH hT (by rw [hd]; trivial) rfl hg
end Go.Proofs.YtbepgibkcmmfeaaGreat.Abs

namespace Go.Proofs.YtbepgibkcmmfeaaGreat.Abs
variable {P : Program}

/-! ## Checkpoints -/
theorem beqO_eq {a b : Option Nat} (h : beqO a b = true) : a = b := by
  cases a <;> cases b <;> simp [beqO] at h
  · rfl
  · rw [h]
theorem beqB_eq {a b : Bool} (h : beqB a b = true) : a = b := by
  cases a <;> cases b <;> simp [beqB] at h <;> rfl
theorem Chunk.same_eq {a b : Chunk} (h : a.same b = true) : a = b := by
  cases a <;> cases b <;> simp [Chunk.same] at h
  · rw [AV.beqL_eq h]
  · rw [h.1, h.2]
theorem sameEs_eq : ∀ {l r : List (AV × AV × Nat)}, sameEs l r = true → l = r
  | [], [], _ => rfl
  | [], _ :: _, h => by simp [sameEs] at h
  | _ :: _, [], h => by simp [sameEs] at h
  | (k, v, n) :: l, (k', v', n') :: r, h => by
    simp only [sameEs, Bool.and_eq_true] at h
    rw [AV.beq_eq h.1, AV.beq_eq h.2.1, Nat.eq_of_beq_eq_true h.2.2.1, sameEs_eq h.2.2.2]
theorem AObj.same_eq {a b : AObj} (h : a.same b = true) : a = b := by
  unfold AObj.same at h
  split at h
  · simp only [Bool.and_eq_true] at h
    rw [Chunk.same_eq h.1, Nat.eq_of_beq_eq_true h.2.1, beqB_eq h.2.2]
  · simp only [Bool.and_eq_true] at h
    rw [sameEs_eq h.1, Nat.eq_of_beq_eq_true h.2]
  · cases h
theorem AEnt.same_eq {a b : AEnt} (h : a.same b = true) : a = b := by
  obtain ⟨o, lk⟩ := a
  obtain ⟨o', lk'⟩ := b
  simp only [AEnt.same, Bool.and_eq_true] at h
  rw [AObj.same_eq h.1, beqO_eq h.2]
theorem agrees_get : ∀ {l : List (Nat × AEnt)} {H : AHeap}, agrees l H = true → ∀ b e, (b, e) ∈ l → H.get b = some e
  | [], _, _, _, _, hm => by cases hm
  | (b0, e0) :: l, H, h, b, e, hm => by
    simp only [agrees] at h
    split at h
    · rename_i e' hg
      simp only [Bool.and_eq_true] at h
      rcases List.mem_cons.1 hm with hm | hm
      · cases hm
        rw [hg, AEnt.same_eq h.1]
      · exact agrees_get h.2 b e hm
    · cases h
theorem layL_get : ∀ {l : List (Nat × AEnt)} {t : Tr AEnt} {b : Nat} {e : AEnt}, (layL l t).get b = some e → (b, e) ∈ l ∨ t.get b = some e
  | [], _, _, _, h => .inr h
  | (b0, e0) :: l, t, b, e, h => by
    rcases layL_get (l := l) h with h | h
    · exact .inl (List.mem_cons_of_mem _ h)
    · rw [Tr.get_set] at h
      by_cases hb : b = b0
      · rw [if_pos hb] at h
        cases h
        subst hb
        exact .inl List.mem_cons_self
      · rw [if_neg hb] at h
        exact .inr h
theorem heapL_get {n : Nat} {l : List (Nat × AEnt)} {b : Nat} {e : AEnt} (h : (heapL n l).get b = some e) : (b, e) ∈ l := by
  rcases layL_get h with h | h
  · exact h
  · rw [Tr.get_nil] at h; cases h

theorem Step.widen {ρ ρ' : Env} {G H H' : AHeap} {w w' : World} (h : Step P ρ G w ρ' H' w') (hn : G.next = H.next) (hsub : ∀ b e, G.get b = some e → H.get b = some e) : Step P ρ H w ρ' H' w' where
  le := h.le
  rel := h.rel
  next := by rw [← hn]; exact h.next
  news := fun b c e => by rw [← hn]; exact h.news b c e
  size := h.size
  frame := fun r hr hx => h.frame r hr fun b e hb => hx b e (hsub b e hb)
  img := fun b e r hb hr hlt => by
    obtain ⟨b0, e0, h0, h1⟩ := h.img b e r hb hr hlt
    exact ⟨b0, e0, hsub b0 e0 h0, h1⟩
  same := h.same

theorem memo_ok {R : Rec} (hR : RecOk P R) {f : Nat} {args0 : List AV} {n0 n1 : Nat} {l0 l1 : List (Nat × AEnt)} {v1 : AV} (hrun : memoGood v1 n1 l1 (R.call f args0 (heapL n0 l0)) = true) : ExtOk P f (memoHook args0 n0 l0 v1 n1 l1) := by
  intro args H v H' h ρ w cargs hH hargs
  unfold memoHook at h
  split at h
  · rename_i hc
    cases h
    simp only [Bool.and_eq_true] at hc
    obtain ⟨c1, c2, c3⟩ := hc
    have ha := AV.beqL_eq c1
    subst ha
    have hn : H.next = n0 := Nat.eq_of_beq_eq_true c2
    have hsub : ∀ b e, (heapL n0 l0).get b = some e → H.get b = some e := fun b e hb => agrees_get c3 b e (heapL_get hb)
    have hG : HRel P ρ (heapL n0 l0) w := hH.sub (by simp [heapL, hn]) hsub
    unfold memoGood at hrun
    split at hrun
    · rename_i v2 H2 hcall
      simp only [Bool.and_eq_true] at hrun
      obtain ⟨r1, r2, r3⟩ := hrun
      have hv := AV.beq_eq r1
      subst hv
      obtain ⟨k1, k2⟩ := hR.call _ _ _ _ _ hcall ρ w cargs hG hargs
      rw [k1]
      show CallsIn _ _ _ _ _ _ _
      refine CallsIn.mono k2 ?_
      rintro e w2 ⟨c, rfl, ρ', s, hv⟩
      refine ⟨c, rfl, ρ', ?_, hv⟩
      have s1 := s.widen (H := H) (by simp [heapL, hn]) hsub
      exact s1.shrink (G := heapL n1 l1) (by simp [heapL, Nat.eq_of_beq_eq_true r2]) (fun b e hb => agrees_get r3 b e (heapL_get hb))
    · cases hrun
  · cases h
end Go.Proofs.YtbepgibkcmmfeaaGreat.Abs

namespace Go.Proofs.YtbepgibkcmmfeaaGreat.Abs
variable {P : Program}

/-! ## codec.Crc: its plain law -/
def bitsN : Nat → Nat → Nat
  | 0, x => x
  | n + 1, x => bitsN n (crcBit x)

theorem crcBit_even {y : Nat} (h : y % 2 = 0) : crcBit y = y / 2 := by
  unfold crcBit
  have : Nat.mod y 2 = 0 := h
  rw [this]; rfl
theorem crcBit_odd {y : Nat} (h : y % 2 = 1) : crcBit y = y / 2 ^^^ 2197175160 := by
  unfold crcBit
  have : Nat.mod y 2 = 1 := h
  rw [this]; rfl
theorem crcBit_lt {y : Nat} (h : y < 4294967296) : crcBit y < 4294967296 := by
  rcases Nat.mod_two_eq_zero_or_one y with e | e
  · rw [crcBit_even e]; omega
  · rw [crcBit_odd e]
    exact Nat.xor_lt_two_pow (n := 32) (by omega) (by omega)
theorem bitsN_lt : ∀ (n : Nat) {y : Nat}, y < 4294967296 → bitsN n y < 4294967296
  | 0, _, h => h
  | n + 1, _, h => bitsN_lt n (crcBit_lt h)

theorem crcByte_eq (c b : Nat) : crcByte c b = bitsN 8 (c ^^^ b) := rfl

theorem crcF_lt (l n : Nat) (hb : ∀ k, byteAt l n k < 256) : ∀ (k : Nat) {c : Nat}, c < 4294967296 → crcF k l n c < 4294967296
  | 0, _, h => h
  | k + 1, c, h => by
    show crcF k l n (crcByte c _) < _
    refine crcF_lt l n hb k ?_
    rw [crcByte_eq]
    exact bitsN_lt 8 (Nat.xor_lt_two_pow (n := 32) h (Nat.lt_trans (hb _) (by decide)))

theorem byteAt_256 (l n k : Nat) : byteAt l n k < 256 := by
  unfold byteAt
  exact Nat.mod_lt _ (by decide)


theorem crc_ok {f : Nat} {fn : Func} (hfn : P.funcs[f]? = some fn) (hn : (fn.name == "runtime.NumGoroutine") = false) (hb : fn.body.isSome = true)
    (hwalk : ∀ (s : ByteArray) (w : World) (_ : s.size ≤ 17592186044416) (F : Nat → Nat → Nat) (_ : ∀ c, F s.size c = c) (_ : ∀ k c (hk : k < s.size), F k c = F (k + 1) (bitsN 8 (c ^^^ s[k].toNat))) (_ : F 0 4294967295 < 4294967296),
      Calls P f #[.string s] w fun e w' => e = .returned (.int .u32 (4294967295 ^^^ F 0 4294967295 : Nat)) ∧ w' = w) : ExtOk P f crcHook := by
  intro args H v H' h ρ w cargs hH hargs
  unfold crcHook at h
  split at h
  · rename_i l n
    split at h
    · rename_i hl
      have hl' : l ≤ 17592186044416 := Nat.le_of_ble_eq_true hl
      generalize hq : crcF l l n 4294967295 = q at h
      generalize hq2 : crcOut q = q2 at h
      cases h
      obtain ⟨x, xs, h1, h2, rfl⟩ := concL_cons.1 hargs
      simp [AV.concL] at h2
      subst h2
      obtain ⟨_, rfl⟩ := conc_str.1 h1
      have henter := run_enter hfn hn (Option.some_get hb).symm #[strV l n] w
      rw [henter]
      show CallsIn _ _ _ _ _ _ _
      rw [callsIn_wide]
      have hsz : (⟨(bytesL l n).toArray⟩ : ByteArray).size = l := by show (bytesL l n).toArray.size = l; simp
      have hC := hwalk ⟨(bytesL l n).toArray⟩ w (by rw [hsz]; exact hl') (fun k c => crcF (l - k) l n c) (fun c => by
          show crcF (l - _) l n c = c
          rw [hsz, Nat.sub_self]; rfl) (fun k c hk => by
          rw [hsz] at hk
          show crcF (l - k) l n c = crcF (l - (k + 1)) l n _
          rw [show l - k = (l - (k + 1)) + 1 by omega]
          show crcF (l - (k + 1)) l n (crcByte c (byteAt l n (l - (l - (k + 1) + 1)))) = _
          rw [crcByte_eq]
          congr 3
          rw [show l - (l - (k + 1) + 1) = k by omega]
          have e : (⟨(bytesL l n).toArray⟩ : ByteArray)[k] = UInt8.ofNat (byteAt l n k) := by
            show (bytesL l n).toArray[k] = _
            have := bytesL_get l n k
            rw [if_pos hk] at this
            simpa using (List.getElem?_eq_some_iff.1 this).2
          rw [e]
          have hb := byteAt_256 l n k
          simp [Nat.mod_eq_of_lt hb]) (by
          show crcF (l - 0) l n 4294967295 < _
          exact crcF_lt l n (byteAt_256 l n) _ (by decide))
      refine Calls.mono hC ?_
      rintro e w2 ⟨rfl, rfl⟩
      refine ⟨_, rfl, ρ, .refl hH, ?_⟩
      have e0 : l - 0 = l := Nat.sub_zero l
      show some _ = some (Value.int .u32 ((4294967295 ^^^ crcF (l - 0) l n 4294967295 : Nat) : Int))
      rw [e0, hq]
      show some (Value.int .u32 (Int.ofNat q2)) = _
      rw [← hq2]
      rfl
    · cases h
  · cases h
end Go.Proofs.YtbepgibkcmmfeaaGreat.Abs

namespace Go.Proofs.YtbepgibkcmmfeaaGreat.Abs
variable {P : Program} {K : Hooks}

/-! ## What is paid once for a program -/
def allF (p : Func → Bool) : List Func → Bool
  | [] => true
  | f :: l => and (p f) (allF p l)
theorem allF_mem {p : Func → Bool} : ∀ {l : List Func}, allF p l = true → ∀ f ∈ l, p f = true
  | _ :: l, h, f, hm => by
    simp only [allF, Bool.and_eq_true] at h
    rcases List.mem_cons.1 hm with rfl | hm
    · exact h.1
    · exact allF_mem h.2 f hm
theorem allF_at {p : Func → Bool} (h : allF p P.funcs.toList = true) {f : Nat} {fn : Func} (hf : P.funcs[f]? = some fn) : p fn = true :=
  allF_mem h fn (by
    have := Array.mem_of_getElem? hf
    exact Array.mem_toList_iff.2 this)
def gorOk (fn : Func) : Bool := match fn.body with | some _ => !(fn.name == "runtime.NumGoroutine") | none => true
theorem noGor_of (h : allF gorOk P.funcs.toList = true) : NoGor P := by
  intro f fn hf hb
  have := allF_at h hf
  unfold gorOk at this
  split at this
  · simpa using this
  · rename_i hn; rw [hn] at hb; cases hb
theorem okU_of {F : Nat → Option Func} (h : allF fnOkU P.funcs.toList = true) (hF : ∀ f fn, F f = some fn → P.funcs[f]? = some fn) : ∀ f fn, F f = some fn → fnOkU fn = true :=
  fun f fn hf => allF_at h (hF f fn hf)

/-- a table of the functions, cut at their number -/
def cutF (n : Nat) (t : Tr Func) (f : Nat) : Option Func := match Nat.blt f n with | true => t.get f | false => none
theorem cutF_ok {n : Nat} {t : Tr Func} (h : (List.range n).map (fun f => t.get f) = P.funcs.toList.map some) : ∀ f fn, cutF n t f = some fn → P.funcs[f]? = some fn := by
  intro f fn hf
  unfold cutF at hf
  split at hf
  · rename_i hlt
    have hlt' : f < n := by simpa [Nat.blt_eq] using hlt
    have h1 := congrArg (fun l => l[f]?) h
    simp only [List.getElem?_map, List.getElem?_range hlt', Option.map_some, hf] at h1
    cases hq : P.funcs.toList[f]? with
    | none => rw [hq] at h1; cases h1
    | some g =>
      rw [hq] at h1
      simp at h1
      rw [h1, ← hq]; simp
  · cases hf

theorem hooks_none : HooksOk P { ext := fun _ => none, inv := hookInv P } :=
  { ext := fun f h args H v H' hx => nomatch hx
    inv := fun name t f hf v w => inv_ok hf v w }
/-- one function more is taken by what it comes to -/
def addHook (K : Hooks) (f : Nat) (h : List AV → AHeap → Res) : Hooks := { ext := fun g => match Nat.beq g f with | true => some h | false => K.ext g, inv := K.inv }
theorem hooks_add (hK : HooksOk P K) {f : Nat} {h : List AV → AHeap → Res} (hf : ExtOk P f h) : HooksOk P (addHook K f h) := by
  refine ⟨fun g h' args H v H' hx hr ρ w cargs hH hargs => ?_, hK.inv⟩
  simp only [addHook] at hx
  split at hx
  · rename_i hb
    have := Nat.eq_of_beq_eq_true hb
    subst this
    cases hx
    exact hf args H v H' hr ρ w cargs hH hargs
  · exact hK.ext g h' args H v H' hx hr ρ w cargs hH hargs
end Go.Proofs.YtbepgibkcmmfeaaGreat.Abs

namespace Go.Proofs.YtbepgibkcmmfeaaGreat.Abs
open Go.RowKit
variable {P : Program}

/-! ## Closed calls -/
def doneHook (v : AV) : List AV → AHeap → Res
  | [], H => .ok v H
  | _, _ => .bad
def isRet (b : Bool) : Res → Bool
  | .ok (.bool c) _ => beqB b c
  | _ => false
theorem isRet_eq {b : Bool} {r : Res} (h : isRet b r = true) : ∃ H, r = .ok (.bool b) H := by
  unfold isRet at h
  split at h
  · rename_i c H
    rw [beqB_eq h]
    exact ⟨H, rfl⟩
  · cases h
/-- one name at most -/
def Env.lone (c : Option Nat) : Env := ⟨fun x => if x = 0 then c else none, fun _ => 0, fun _ => Nat.zero_le _⟩
theorem hrel_lone (c : Option Nat) (w : World) : HRel P (Env.lone c) ⟨1, .nil⟩ w := by
  refine ⟨fun b e h => ?_, fun b b' e e' c h => ?_, fun b c h => ?_⟩
  · simp [AHeap.get, Tr.get_nil] at h
  · simp [AHeap.get, Tr.get_nil] at h
  · simp only [Env.lone] at h
    split at h
    · rename_i e; subst e; exact Nat.zero_lt_one
    · cases h
theorem hrel_none (w : World) : HRel P (Env.lone none) ⟨0, .nil⟩ w := by
  refine ⟨fun b e h => ?_, fun b b' e e' c h => ?_, fun b c h => ?_⟩
  · simp [AHeap.get, Tr.get_nil] at h
  · simp [AHeap.get, Tr.get_nil] at h
  · simp [Env.lone] at h
theorem step_keeps {ρ ρ' : Env} {n : Nat} {H' : AHeap} {w w' : World} (h : Step P ρ ⟨n, .nil⟩ w ρ' H' w') (r : Nat) (hr : r < w.heap.size) : w'.heap[r]? = w.heap[r]? :=
  h.frame r hr fun b e hb => by simp [AHeap.get, Tr.get_nil] at hb
theorem below_of_step {ρ ρ' : Env} {n : Nat} {H' : AHeap} {w w' : World} (h : Step P ρ ⟨n, .nil⟩ w ρ' H' w') : Below w.heap.size w w' :=
  ⟨h.same.os, h.same.tape, h.same.output, h.size, fun k hk => step_keeps h k hk⟩

theorem done_ok {R : Rec} (hR : RecOk P R) {f : Nat} {b : Bool} (hrun : isRet b (R.call f [] ⟨0, .nil⟩) = true) : ExtOk P f (doneHook (.bool b)) := by
  intro args H v H' h ρ w cargs hH hargs
  unfold doneHook at h
  split at h
  · cases h
    obtain ⟨H2, hc⟩ := isRet_eq hrun
    have hargs0 : AV.concL (Env.lone none) [] = some cargs := by
      simp only [AV.concL] at hargs ⊢
      exact hargs
    obtain ⟨k1, k2⟩ := hR.call _ _ _ _ _ hc _ w cargs (hrel_none w) hargs0
    rw [k1]
    show CallsIn _ _ _ _ _ _ _
    refine CallsIn.mono k2 ?_
    rintro e w2 ⟨c, rfl, ρ', s, hv⟩
    have hc' : c = .bool b := by
      have : (AV.bool b).conc ρ' = some (.bool b) := rfl
      rw [this] at hv; exact (Option.some.inj hv).symm
    subst hc'
    refine ⟨_, rfl, ρ, ⟨.refl ρ, ⟨fun x e hx => ?_, hH.sep, hH.fresh⟩, Nat.le_refl _, fun _ _ x => .inl x, s.size, fun r hr _ => step_keeps s r hr, fun x e r hx hr _ => ⟨x, e, hx, hr⟩, s.same⟩, rfl⟩
    obtain ⟨c, o, h1, h2, h3⟩ := hH.obj x e hx
    exact ⟨c, o, h1, by rw [step_keeps s c ((Array.getElem?_eq_some_iff.1 h2).1)]; exact h2, h3⟩
  · cases h

/-- a call on one slice that is not looked at -/
theorem one_slice {R : Rec} (hR : RecOk P R) {f : Nat} {b : Bool} (hrun : ∀ x : AV, isRet b (R.call f [x] ⟨1, .nil⟩) = true) (a : Option Addr) (len cap : Nat) (h : (a = none ∧ len = 0 ∧ cap = 0) ∨ ∃ c off, a = some ⟨c, off, none⟩ ∧ len ≤ cap) (w : World) :
    Calls P f #[.slice a len cap] w fun e w' => e = .returned (.bool b) ∧ Below w.heap.size w w' := by
  have key : ∀ (x : AV) (c : Option Nat), x.conc (Env.lone c) = some (.slice a len cap) → Calls P f #[.slice a len cap] w fun e w' => e = .returned (.bool b) ∧ Below w.heap.size w w' := by
    intro x c hx
    obtain ⟨H2, hc⟩ := isRet_eq (hrun x)
    obtain ⟨k1, k2⟩ := hR.call _ _ _ _ _ hc _ w [.slice a len cap] (hrel_lone c w) (concL_cons.2 ⟨_, _, hx, rfl, rfl⟩)
    have k3 := callsIn_wide.1 k2
    refine Calls.mono k3 ?_
    rintro e w2 ⟨c, rfl, ρ', s, hv⟩
    have hc' : c = .bool b := by
      have : (AV.bool b).conc ρ' = some (.bool b) := rfl
      rw [this] at hv; exact (Option.some.inj hv).symm
    subst hc'
    exact ⟨rfl, below_of_step s⟩
  rcases h with ⟨rfl, rfl, rfl⟩ | ⟨c, off, rfl, hle⟩
  · exact key .nils none rfl
  · exact key (.slice 0 off len (.exact cap)) (some c) (by simp [AV.conc, Env.lone, hle])
end Go.Proofs.YtbepgibkcmmfeaaGreat.Abs
