/- Maps whose keys are numbers, texts or truths. -/
import Derived.Test.YtmcadfejkcpblaaQg
import Derived.MapKept
set_option linter.unusedVariables false
set_option linter.unusedSimpArgs false
namespace Go.Proofs.Ytmcadfejkcpblaa.Q
open Go Go.RowKit

section
variable {P : Program} {base : Nat} {w0 : World} {g : Gh} {σ : St} {w : World}

/-- A map is another; it lies where it lay. -/
theorem Rel.mapSet (h : Rel base w0 g σ w) {r : Nat} {es : List (V × V)} (hr : σ.objs[r]? = some (.mp es)) (a' : Array MapEntry) (clock' : Nat) (es' : List (V × V))
    (hk : VRs g σ.toks w (es'.map (·.1)) (a'.toList.map (·.key))) (hv : VRs g σ.toks w (es'.map (·.2)) (a'.toList.map (·.val))) :
    Ext g σ.toks w g σ.toks { w with heap := w.heap.setIfInBounds (g.ρ r) (.map a' clock') } ∧ Rel base w0 g ⟨σ.objs.set r (.mp es'), σ.toks⟩ { w with heap := w.heap.setIfInBounds (g.ρ r) (.map a' clock') } := by
  obtain ⟨hb, hL, a, cl, hh, _⟩ := h.obj r _ hr
  have hlt := (Array.getElem?_eq_some_iff.1 hh).1
  have halr : aliveAt σ.objs r := ⟨_, hr, fun h => by cases h⟩
  have other : ∀ k, k ≠ g.ρ r → ({ w with heap := w.heap.setIfInBounds (g.ρ r) (.map a' clock') } : World).heap[k]? = w.heap[k]? := fun k hk => by
    simp only [Array.getElem?_setIfInBounds]
    rw [if_neg (fun e => hk e.symm)]
  have same : ({ w with heap := w.heap.setIfInBounds (g.ρ r) (.map a' clock') } : World).heap[g.ρ r]? = some (.map a' clock') := by
    simp [Array.getElem?_setIfInBounds, hlt]
  have E : Ext g σ.toks w g σ.toks { w with heap := w.heap.setIfInBounds (g.ρ r) (.map a' clock') } := {
    n := Nat.le_refl _
    has := fun _ h => h
    ρ := fun _ _ => rfl
    ob := fun _ _ => rfl
    L := fun _ => Nat.le_refl _
    cells := fun b q hlo => by
      by_cases eb : b = g.ρ r
      · subst eb; rw [hL] at hlo; omega
      · exact cell?_heap (other b eb) q
    shape := fun b c ty fr hbb => by
      by_cases eb : b = g.ρ r
      · subst eb; rw [hh] at hbb; cases hbb
      · exact ⟨c, fr, (other b eb).trans hbb, rfl, .inl rfl⟩
    dfr := fun b x hbb => by
      by_cases eb : b = g.ρ r
      · subst eb; rw [hh] at hbb; cases hbb
      · exact (other b eb).trans hbb
    nt := Nat.le_refl _
    tok := fun s _ hl => ⟨hl, rfl, rfl⟩ }
  refine ⟨E, ?_⟩
  have hd : ∀ h : (Ob.mp es).gone, False := fun h => h
  exact {
    below := h.below.trans ⟨rfl, rfl, rfl, by simp, fun i hi => other i (by omega)⟩
    bs := by simpa using h.bs
    n := by simpa using h.n
    hid := fun k => by
      by_cases e : r = k
      · subst e
        rw [List.getElem?_set_self (List.getElem?_eq_some_iff.1 hr).1, h.hid, hr]
        constructor <;> (intro h; cases h)
      · rw [List.getElem?_set_ne e]
        exact h.hid k
    obj := fun k o hk2 => by
      rw [List.getElem?_set] at hk2
      by_cases ek : r = k
      · subst ek
        rw [if_pos rfl] at hk2
        split at hk2
        · injection hk2 with hk2
          subst hk2
          exact ⟨hb, hL, a', clock', same, VRs.ext E _ hk, VRs.ext E _ hv⟩
        · cases hk2
      · rw [if_neg ek] at hk2
        by_cases hdd : o.gone
        · exact ObjOk.gone hdd
        · have hne : g.ρ k ≠ g.ρ r := fun ee => ek (h.inj k r ⟨o, hk2, hdd⟩ halr ee).symm
          exact (h.obj k o hk2).ext E (h.hasO hk2) (other _ hne) rfl
    inj := fun a b ha hb' => h.inj a b (alive_set hr hd ha) (alive_set hr hd hb')
    tok := fun t ht => by
      obtain ⟨h1, h2, h3⟩ := h.tok t ht
      exact ⟨h1, by simpa using h2, fun a ha => h3 a (alive_set hr hd ha)⟩
    tinj := h.tinj
    lim := fun b hb' => h.lim b (by simpa using hb') }

/-! ### make -/
def vmakeMap (σ : St) : V × St := (.omap σ.objs.length, ⟨σ.objs ++ [.mp []], σ.toks⟩)
theorem vmakeMap_ok (h : Rel base w0 g σ w) (t : TypeId) : MOk P base w0 g σ w (Instr.makeMap t none) (vmakeMap σ).1 (vmakeMap σ).2 := by
  refine ⟨.map (some w.heap.size), w.alloc (.map #[] 0), g.obj w.heap.size, by simp [Instr.makeMap, newObj, Sem.run], Ext.obj h _, h.newA _ _ ?_, ?_⟩
  · simp only [ObjOk, Gh.obj]
    rw [if_pos h.n.symm]
    exact ⟨h.bs, h.lim _ (Nat.le_refl _), #[], 0, heap_alloc_eq _ _, by simp [VRs], by simp [VRs]⟩
  · simp [vmakeMap, VR, Gh.obj, h.n, Gh.has]

/-! ### Finding -/
def keyEq (d : TypeDesc) : V → V → Option Bool
  | .int k a, .int k' b => match d with | .int _ => if k = k' then some (decide (a = b)) else none | _ => none
  | .str a, .str b => match d with | .string => some (decide (a = b)) | _ => none
  | .bool a, .bool b => match d with | .bool => some (a == b) | _ => none
  | _, _ => none
def vfind (d : TypeDesc) (k : V) : List (V × V) → Nat → Option (Option (Nat × V))
  | [], _ => some none
  | e :: es, i => match keyEq d k e.1 with
    | some true => some (some (i, e.2))
    | some false => vfind d k es (i + 1)
    | none => none
theorem keyEq_ok {toks : List Bool} {d : TypeDesc} {k k' : V} {x x' : Value} {b : Bool} (h : VR g toks w k x) (h' : VR g toks w k' x') (e : keyEq d k k' = some b) : Instr.sameNow d x x' = some b ∧ (b = true → x' = x ∧ ∀ n, Instr.sameBits n x' x = true) := by
  unfold keyEq at e
  split at e
  · split at e
    · split at e
      · rename_i hk
        subst hk
        injection e with e
        simp only [VR] at h h'
        subst h h'
        simp only [Instr.sameNow, if_true]
        refine ⟨by rw [← e]; rfl, fun hb => ?_⟩
        rw [hb] at e
        simp at e
        subst e
        exact ⟨rfl, fun n => by cases n <;> simp [Instr.sameBits]⟩
      · cases e
    · cases e
  · split at e
    · injection e with e
      simp only [VR] at h h'
      subst h h'
      rename_i a b' _
      have he : ((⟨a.toArray⟩ : ByteArray) == ⟨b'.toArray⟩) = decide (a = b') := by
        show (a.toArray == b'.toArray) = decide (a = b')
        rw [Bool.eq_iff_iff]
        simp
      simp only [Instr.sameNow, he]
      refine ⟨by rw [← e], fun hb => ?_⟩
      rw [hb] at e
      simp at e
      subst e
      rw [decide_eq_true rfl] at he
      exact ⟨rfl, fun n => by cases n <;> (simp only [Instr.sameBits]; exact he)⟩
    · cases e
  · split at e
    · injection e with e
      simp only [VR] at h h'
      subst h h'
      simp only [Instr.sameNow]
      refine ⟨by rw [← e], fun hb => ?_⟩
      rw [hb] at e
      simp at e
      subst e
      exact ⟨rfl, fun n => by cases n <;> simp [Instr.sameBits]⟩
    · cases e
  · cases e
theorem vfind_ok {toks : List Bool} {d : TypeDesc} {k : V} {x : Value} (h : VR g toks w k x) : ∀ {es : List (V × V)} {a : List MapEntry} {i : Nat} {r : Option (Nat × V)}, VRs g toks w (es.map (·.1)) (a.map (·.key)) → VRs g toks w (es.map (·.2)) (a.map (·.val)) → vfind d k es i = some r →
    match r with
    | none => Instr.findNow d x a i = some none
    | some (j, v) => ∃ u, Instr.findNow d x a i = some (some (j, u)) ∧ VR g toks w v u ∧ i ≤ j ∧ j < i + es.length ∧ ∃ e, a[j - i]? = some e ∧ ∀ n, Instr.sameBits n e.key x = true
  | [], a, i, r, hk, hv, hf => by
    simp only [vfind] at hf
    injection hf with hf
    subst hf
    cases a with
    | nil => rfl
    | cons e a => simp [VRs] at hk
  | e :: es, a, i, r, hk, hv, hf => by
    cases a with
    | nil => simp [VRs] at hk
    | cons y a =>
      simp only [List.map_cons, VRs] at hk hv
      obtain ⟨u1, us1, e1, hk1, hk2⟩ := hk
      obtain ⟨u2, us2, e2, hv1, hv2⟩ := hv
      injection e1 with e1 e1'
      injection e2 with e2 e2'
      subst e1 e1' e2 e2'
      simp only [vfind] at hf
      split at hf
      · rename_i hq
        injection hf with hf
        subst hf
        obtain ⟨q1, q2⟩ := keyEq_ok h hk1 hq
        refine ⟨y.val, by simp only [Instr.findNow, q1], hv1, Nat.le_refl _, by simp, y, by simp, (q2 rfl).2⟩
      · rename_i hq
        obtain ⟨q1, _⟩ := keyEq_ok h hk1 hq
        have := vfind_ok h hk2 hv2 hf
        cases r with
        | none => simp only [Instr.findNow, q1]; exact this
        | some r =>
          obtain ⟨j, v⟩ := r
          obtain ⟨u, h1, h2, h3, h4, e', h5, h6⟩ := this
          refine ⟨u, by simp only [Instr.findNow, q1]; exact h1, h2, by omega, by simp; omega, e', ?_, h6⟩
          rw [show j - i = (j - (i + 1)) + 1 by omega, List.getElem?_cons_succ]
          exact h5
      · cases hf

/-- A type that may be a key, and its description. -/
def keyDesc (P : Program) (t : TypeId) : Option TypeDesc := match P.underlying t with
  | some (.int k) => some (.int k)
  | some .string => some .string
  | some .bool => some .bool
  | _ => none
theorem keyDesc_eq {t : TypeId} {d : TypeDesc} (h : keyDesc P t = some d) : P.underlying t = some d ∧ ∀ (b : Bool) (n : Nat) (x : Value), (Instr.checkKey b (n + 1) t x).run P w = .ok () w := by
  unfold keyDesc at h
  split at h
  · rename_i k hu; injection h with h; subst h; exact ⟨hu, fun b n x => by simp [Instr.checkKey, run_underlying hu]⟩
  · rename_i hu; injection h with h; subst h; exact ⟨hu, fun b n x => by simp [Instr.checkKey, run_underlying hu]⟩
  · rename_i hu; injection h with h; subst h; exact ⟨hu, fun b n x => by simp [Instr.checkKey, run_underlying hu]⟩
  · cases h

/-! ### Lookup -/
def vlookup (P : Program) (objs : List Ob) (t : TypeId) (m k : V) (ok : Bool) : Option V := match P.underlying t, m with
  | some (.map kt et), .omap r => match objs[r]?, keyDesc P kt, zeroT P et with
    | some (.mp es), some d, some z => match vfind d k es 0 with
      | some (some (_, v)) => some (if ok then .tuple [v, .bool true] else v)
      | some none => some (if ok then .tuple [z, .bool false] else z)
      | none => none
    | _, _, _ => none
  | _, _ => none
theorem vlookup_ok (h : Rel base w0 g σ w) {t : TypeId} {m k v : V} {x y : Value} {ok : Bool} (hm : VR g σ.toks w m x) (hk : VR g σ.toks w k y) (hl : vlookup P σ.objs t m k ok = some v) : POk P g σ.toks w (Instr.lookup t x y ok) v := by
  unfold vlookup at hl
  split at hl
  · rename_i kt et r hu
    split at hl
    · rename_i es d z ho hd hz
      obtain ⟨it, uz, hit, hzu, hoz⟩ := zeroT_parts hz
      obtain ⟨hb, hL, a, cl, hh, h1, h2⟩ := h.obj r _ ho
      simp only [VR] at hm
      obtain ⟨hrn, rfl⟩ := hm
      obtain ⟨hd1, hd2⟩ := keyDesc_eq (w := w) hd
      have hzr : (zeroValue et).run P w = .ok uz w := by simp [zeroValue, typeInfo, hit, hzu]
      have hck := hd2 a.isEmpty 9999 y
      have hg := run_getObj_map (P := P) w _ _ _ hh
      split at hl
      · rename_i j u hf
        injection hl with hl
        subst hl
        obtain ⟨u', q1, q2, _⟩ := vfind_ok hk h1 h2 hf
        cases ok with
        | true => exact ⟨.tuple #[u', .bool true], by simp [Instr.lookup, Instr.findKey, run_underlying hu, run_underlying hd1, hg, hck, q1], by simp only [if_true, VR]; exact ⟨[u', .bool true], rfl, by simp [VRs, VR, q2]⟩⟩
        | false => exact ⟨u', by simp [Instr.lookup, Instr.findKey, run_underlying hu, run_underlying hd1, hg, hck, q1], q2⟩
      · rename_i hf
        injection hl with hl
        subst hl
        have q1 := vfind_ok hk h1 h2 hf
        simp only at q1
        have hzv : VR g σ.toks w z uz := ofVal_ok hoz
        cases ok with
        | true => exact ⟨.tuple #[uz, .bool false], by simp [Instr.lookup, Instr.findKey, run_underlying hu, run_underlying hd1, hg, hck, q1, hzr], by simp only [if_true, VR]; exact ⟨[uz, .bool false], rfl, by simp [VRs, VR, hzv]⟩⟩
        | false => exact ⟨uz, by simp [Instr.lookup, Instr.findKey, run_underlying hu, run_underlying hd1, hg, hck, q1, hzr], hzv⟩
      · cases hl
    · cases hl
  · cases hl

/-! ### Setting -/
def vmapSet (P : Program) (σ : St) (t : TypeId) (m k v : V) : Option St := match P.underlying t, m with
  | some (.map kt _), .omap r => match σ.objs[r]?, keyDesc P kt with
    | some (.mp es), some d => match vfind d k es 0 with
      | some (some (i, _)) => some ⟨σ.objs.set r (.mp (es.set i (k, v))), σ.toks⟩
      | some none => some ⟨σ.objs.set r (.mp (es ++ [(k, v)])), σ.toks⟩
      | none => none
    | _, _ => none
  | _, _ => none
theorem vmapSet_ok (h : Rel base w0 g σ w) {t : TypeId} {m k v : V} {x y z : Value} {σ' : St} (hm : VR g σ.toks w m x) (hk : VR g σ.toks w k y) (hv : VR g σ.toks w v z) (hl : vmapSet P σ t m k v = some σ') :
    ∃ w', (Instr.mapUpdate t x y z).run P w = .ok () w' ∧ Ext g σ.toks w g σ'.toks w' ∧ Rel base w0 g σ' w' := by
  unfold vmapSet at hl
  split at hl
  · rename_i kt et r hu
    split at hl
    · rename_i es d ho hd
      obtain ⟨hb, hL, a, cl, hh, h1, h2⟩ := h.obj r _ ho
      simp only [VR] at hm
      obtain ⟨hrn, rfl⟩ := hm
      obtain ⟨hd1, hd2⟩ := keyDesc_eq (w := w) hd
      have hck := hd2 false 9999 y
      have hg := run_getObj_map (P := P) w _ _ _ hh
      have hst : ∀ o : Obj, (setObj (g.ρ r) o).run P w = .ok () { w with heap := w.heap.setIfInBounds (g.ρ r) o } := fun o => MapKept.run_setObj_map o hh
      split at hl
      · rename_i j u hf
        injection hl with hl
        subst hl
        obtain ⟨u', q1, q2, _, hj, e, he, hsb⟩ := vfind_ok hk h1 h2 hf
        rw [Nat.sub_zero] at he
        rw [Array.getElem?_toList] at he
        have hkt : (Instr.keyThatStays e.key y).run P w = .ok y w := by simp [Instr.keyThatStays, hsb]
        have hjl : j < a.size := (Array.getElem?_eq_some_iff.1 he).1
        have hmk : ((a.modify j fun e => { e with key := y, val := z }).toList.map (·.key)) = (a.toList.map (·.key)).set j y := by
          apply List.ext_getElem?
          intro i
          simp only [List.getElem?_map, List.getElem?_set, Array.getElem?_toList, Array.getElem?_modify, List.length_map, Array.length_toList]
          by_cases e : j = i
          · subst e; simp [hjl, Array.getElem?_eq_getElem hjl]
          · simp [e]
        have hmv : ((a.modify j fun e => { e with key := y, val := z }).toList.map (·.val)) = (a.toList.map (·.val)).set j z := by
          apply List.ext_getElem?
          intro i
          simp only [List.getElem?_map, List.getElem?_set, Array.getElem?_toList, Array.getElem?_modify, List.length_map, Array.length_toList]
          by_cases e : j = i
          · subst e; simp [hjl, Array.getElem?_eq_getElem hjl]
          · simp [e]
        obtain ⟨E, R⟩ := h.mapSet ho (a.modify j fun e => { e with key := y, val := z }) cl (es.set j (k, v)) (by rw [List.map_set, hmk]; exact VRs.set h1 j hk) (by rw [List.map_set, hmv]; exact VRs.set h2 j hv)
        refine ⟨_, ?_, E, R⟩
        simp [Instr.mapUpdate, Instr.findKey, run_underlying hu, run_underlying hd1, hg, hck, q1, he, hkt, hst]
      · rename_i hf
        injection hl with hl
        subst hl
        have q1 := vfind_ok hk h1 h2 hf
        simp only at q1
        obtain ⟨E, R⟩ := h.mapSet ho (a.push { key := y, val := z, born := cl }) (cl + 1) (es ++ [(k, v)]) (by simp only [List.map_append, Array.toList_push]; exact h1.append (by simp [VRs, hk])) (by simp only [List.map_append, Array.toList_push]; exact h2.append (by simp [VRs, hv]))
        refine ⟨_, ?_, E, R⟩
        simp [Instr.mapUpdate, Instr.findKey, run_underlying hu, run_underlying hd1, hg, hck, q1, hst]
      · cases hl
    · cases hl
  · cases hl
end
end Go.Proofs.Ytmcadfejkcpblaa.Q
