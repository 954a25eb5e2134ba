/- Rows that are written: each is an object of its own from its birth on. -/
import Derived.Test.YtmcadfejkcpblaaQh
set_option linter.unusedVariables false
set_option linter.unusedSimpArgs false
namespace Go.Proofs.Ytmcadfejkcpblaa.Q
open Go Go.RowKit

section
variable {P : Program} {base : Nat} {w0 : World} {g : Gh} {σ : St} {w : World}

theorem Rel.newPre (h : Rel base w0 g σ w) (c : Array Value) (ty : TypeId) (cs : List V) (us : List Value) (hv : VRs g σ.toks w cs us) (hpre : c.toList.take us.length = us) :
    Rel base w0 (g.obj w.heap.size) ⟨σ.objs ++ [.cells cs], σ.toks⟩ (w.alloc (.cells c ty)) := by
  refine h.newG c ty _ ?_
  simp only [ObjOk, Gh.obj]
  rw [if_pos h.n.symm, if_pos h.n.symm]
  have hle : us.length ≤ c.size := by
    have := congrArg List.length hpre
    rw [List.length_take] at this
    have h2 : c.toList.length = c.size := Array.length_toList
    omega
  refine ⟨h.bs, h.lim _ (Nat.le_refl _), c, ty, us, heap_alloc_eq _ _, VRs.ext (Ext.obj h _) cs hv, by omega, fun i u hu => ?_⟩
  have hil : i < us.length := (List.getElem?_eq_some_iff.1 hu).1
  rw [← hpre, List.getElem?_take_of_lt hil] at hu
  rw [Nat.zero_add]
  simpa using hu

/-- A new row as an object. -/
theorem newRowO_ok (h : Rel base w0 g σ w) (c : Array Value) (e : TypeId) (cs : List V) (us : List Value) (hv : VRs g σ.toks w cs us) (hpre : c.toList.take us.length = us) (len cap sz : Nat) (hc : len ≤ cap) (hm : cap ≤ maxLen) (hx : c.size = cap * sz) :
    Ext g σ.toks w (g.obj w.heap.size) σ.toks (w.alloc (.cells c e)) ∧
    Rel base w0 (g.obj w.heap.size) ⟨σ.objs ++ [.cells cs], σ.toks⟩ (w.alloc (.cells c e)) ∧
    VR (g.obj w.heap.size) σ.toks (w.alloc (.cells c e)) (.hslice σ.objs.length 0 sz len) (.slice (some ⟨w.heap.size, 0, none⟩) len cap) := by
  refine ⟨Ext.obj h _, h.newPre c e cs us hv hpre, ?_⟩
  have hn := h.n
  simp only [VR, Gh.obj]
  rw [if_pos hn.symm, if_pos hn.symm]
  refine ⟨⟨by show σ.objs.length < g.n + 1; omega, by show (if σ.objs.length = g.n then false else g.hid σ.objs.length) = false; rw [if_pos hn.symm]⟩, cap, rfl, hc, hm, ?_⟩
  simp only [World.bsize, heap_alloc_eq]
  omega

/-- An object that nobody may read any more. -/
theorem alive_kill {objs : List Ob} {r k : Nat} (h : aliveAt (objs.set r .dead) k) : aliveAt objs k ∧ k ≠ r := by
  obtain ⟨o, ho, hd⟩ := h
  rw [List.getElem?_set] at ho
  split at ho
  · rename_i e
    split at ho
    · injection ho with ho; subst ho; exact (hd trivial).elim
    · cases ho
  · rename_i e
    exact ⟨⟨o, ho, hd⟩, fun h => e h.symm⟩
theorem Rel.bury (h : Rel base w0 g σ w) (r : Nat) (hnu : ¬ σ.objs[r]? = some .unb) : Rel base w0 g ⟨σ.objs.set r .dead, σ.toks⟩ w where
  below := h.below
  bs := h.bs
  n := by simpa using h.n
  hid k := by
    by_cases e : r = k
    · subst e
      rw [List.getElem?_set_self', h.hid]
      constructor
      · intro h; exact absurd h hnu
      · intro h
        cases hs : σ.objs[r]? with
        | none => rw [hs] at h; cases h
        | some o => rw [hs] at h; cases h
    · rw [List.getElem?_set_ne e]; exact h.hid k
  obj k o hk := by
    rw [List.getElem?_set] at hk
    split at hk
    · split at hk
      · injection hk with hk; subst hk; trivial
      · cases hk
    · exact h.obj k o hk
  inj a b ha hb := h.inj a b (alive_kill ha).1 (alive_kill hb).1
  tok t ht := by
    obtain ⟨h1, h2, h3⟩ := h.tok t ht
    exact ⟨h1, h2, fun a ha => h3 a (alive_kill ha).1⟩
  tinj := h.tinj
  lim := h.lim

/-! ### An append in place: the old object is dead, a new one lies where it lay -/
def Gh.over (g : Gh) (B o : Nat) : Gh := { g with n := g.n + 1, hid := fun r => if r = g.n then false else g.hid r, ρ := fun r => if r = g.n then B else g.ρ r, ob := fun r => if r = g.n then o else g.ob r }

theorem Rel.reuse {w' : World} (h : Rel base w0 g σ w) {r : Nat} {cs : List V} (hr : σ.objs[r]? = some (.cells cs)) {c c' : Array Value} {ty : TypeId}
    (hb : w.heap[g.ρ r]? = some (.cells c ty (0, 0))) (hb' : w'.heap[g.ρ r]? = some (.cells c' ty (0, 0))) (hs : c'.size = c.size) (ho : ∀ k, k ≠ g.ρ r → w'.heap[k]? = w.heap[k]?)
    (hsz : w'.heap.size = w.heap.size) (hos : w'.os = w.os) (htp : w'.tape = w.tape) (hout : w'.output = w.output) (o : Nat) (ns : List V) (us : List Value) (hv : VRs g σ.toks w ns us) (hfit : o + us.length ≤ c.size) (hus : ∀ i u, us[i]? = some u → c'[o + i]? = some u) :
    Ext g σ.toks w (g.over (g.ρ r) o) σ.toks w' ∧ Rel base w0 (g.over (g.ρ r) o) ⟨σ.objs.set r .dead ++ [.cells ns], σ.toks⟩ w' := by
  obtain ⟨hbase, hL, _⟩ := h.obj r _ hr
  have hrl : r < σ.objs.length := (List.getElem?_eq_some_iff.1 hr).1
  have halr : aliveAt σ.objs r := ⟨_, hr, fun h => by cases h⟩
  have hn := h.n
  have E : Ext g σ.toks w (g.over (g.ρ r) o) σ.toks w' := {
    n := by simp [Gh.over]
    has := fun k hk => by obtain ⟨h1, h2⟩ := hk; exact ⟨by simp [Gh.over]; omega, by simp only [Gh.over]; rw [if_neg (by omega)]; exact h2⟩
    ρ := fun k hk => by have := hk.1; simp only [Gh.over]; rw [if_neg (by omega)]
    ob := fun k hk => by have := hk.1; simp only [Gh.over]; rw [if_neg (by omega)]
    L := fun _ => Nat.le_refl _
    cells := fun b q hlo => by
      by_cases eb : b = g.ρ r
      · subst eb; rw [hL] at hlo; omega
      · exact cell?_heap (ho b eb) q
    shape := fun b c2 ty2 fr hbb => by
      by_cases eb : b = g.ρ r
      · subst eb
        rw [hb] at hbb
        injection hbb with hbb
        injection hbb with h1 h2 h3
        subst h1 h2 h3
        exact ⟨c', _, hb', hs, .inl rfl⟩
      · exact ⟨c2, fr, (ho b eb).trans hbb, rfl, .inl rfl⟩
    dfr := fun b x hbb => by
      by_cases eb : b = g.ρ r
      · subst eb; rw [hb] at hbb; cases hbb
      · exact (ho b eb).trans hbb
    nt := Nat.le_refl _
    tok := fun s _ hl => ⟨hl, rfl, rfl⟩ }
  refine ⟨E, ?_⟩
  have old : ∀ k, aliveAt (σ.objs.set r .dead ++ [Ob.cells ns]) k → (aliveAt σ.objs k ∧ k ≠ r ∧ k < g.n) ∨ k = g.n := by
    intro k hk
    rcases alive_append hk with h1 | h1
    · exact .inl ⟨(alive_kill h1).1, (alive_kill h1).2, by rw [hn]; exact alive_lt (alive_kill h1).1⟩
    · exact .inr (by rw [hn, h1]; simp)
  exact {
    below := h.below.trans ⟨hos, htp, hout, by omega, fun i hi => ho i (by omega)⟩
    bs := by rw [hsz]; exact h.bs
    n := by simp [Gh.over, hn]
    hid := fun k => by
      simp only [Gh.over]
      rcases Nat.lt_or_ge k σ.objs.length with h1 | h1
      · rw [if_neg (by rw [hn]; omega), List.getElem?_append_left (by simpa using h1)]
        by_cases e : r = k
        · subst e
          rw [List.getElem?_set_self h1, h.hid, hr]
          constructor <;> (intro h; cases h)
        · rw [List.getElem?_set_ne e]
          exact h.hid k
      · have h2 : g.hid k = false := by
          cases e : g.hid k with
          | false => rfl
          | true => have := (List.getElem?_eq_some_iff.1 ((h.hid k).1 e)).1; omega
        rw [h2]
        constructor
        · intro h; split at h <;> cases h
        · intro hu
          have h3 := (List.getElem?_eq_some_iff.1 hu).1
          simp only [List.length_append, List.length_singleton, List.length_set] at h3
          have : k = σ.objs.length := by omega
          subst this
          rw [List.getElem?_append_right (by simp)] at hu
          simp at hu
    obj := fun k ob hk => by
      rcases Nat.lt_or_ge k σ.objs.length with h1 | h1
      · rw [List.getElem?_append_left (by simpa using h1), List.getElem?_set] at hk
        split at hk
        · first
            | (injection hk with hk; subst hk; trivial)
            | (split at hk
               · injection hk with hk; subst hk; trivial
               · cases hk)
        · rename_i hne
          by_cases hd : ob.gone
          · exact ObjOk.gone hd
          · have hal : aliveAt σ.objs k := ⟨ob, hk, hd⟩
            have hne2 : g.ρ k ≠ g.ρ r := fun e => hne (h.inj k r hal halr e).symm
            exact (h.obj k ob hk).ext E (h.hasO hk) (ho _ hne2) rfl
      · have hkk : k = σ.objs.length := by
          have := (List.getElem?_eq_some_iff.1 hk).1
          simp only [List.length_append, List.length_set, List.length_singleton] at this
          omega
        subst hkk
        rw [List.getElem?_append_right (by simp)] at hk
        simp at hk
        subst hk
        simp only [ObjOk, Gh.over]
        rw [if_pos hn.symm, if_pos hn.symm]
        exact ⟨hbase, hL, c', ty, us, hb', VRs.ext E ns hv, by omega, hus⟩
    inj := fun a b ha hb2 he => by
      simp only [Gh.over] at he
      rcases old a ha with ⟨a1, a2, a3⟩ | a1 <;> rcases old b hb2 with ⟨b1, b2, b3⟩ | b1
      · rw [if_neg (by omega), if_neg (by omega)] at he
        exact h.inj a b a1 b1 he
      · rw [if_neg (by omega), if_pos b1] at he
        exact absurd (h.inj a r a1 halr he) a2
      · rw [if_pos a1, if_neg (by omega)] at he
        exact absurd (h.inj r b halr b1 he).symm b2
      · omega
    tok := fun t ht => by
      obtain ⟨h1, h2, h3⟩ := h.tok t ht
      refine ⟨h1, by rw [hsz]; exact h2, fun a ha => ?_⟩
      simp only [Gh.over]
      rcases old a ha with ⟨a1, a2, a3⟩ | a1
      · rw [if_neg (by omega)]; exact h3 a a1
      · rw [if_pos a1]; exact h3 r halr
    tinj := h.tinj
    lim := fun b hbb => h.lim b (by rw [hsz] at hbb; exact hbb) }

/-! ### make -/
def vmakeRow (P : Program) (σ : St) (t : TypeId) (l c : V) : Option (V × St) :=
  match P.underlying t, l, c with
  | some (.slice e), .int _ l, .int _ c => match (P.info? e).map (·.bytes), sizeT P e, zeroT P e with
    | some by_, some sz, some z =>
      if 0 ≤ l ∧ l ≤ c ∧ by_ * c.toNat ≤ 140737488355328 ∧ c ≤ 140737488355328 ∧ (vcells z).length = sz ∧ 0 < sz then
        some (.hslice σ.objs.length 0 sz l.toNat, ⟨σ.objs ++ [.cells (zeroCellsV (vcells z) (l.toNat * sz))], σ.toks⟩)
      else none
    | _, _, _ => none
  | _, _, _ => none
theorem vmakeRow_ok (h : Rel base w0 g σ w) {t : TypeId} {l c : V} {a b : Value} {v : V} {σ' : St} (hl : VR g σ.toks w l a) (hc : VR g σ.toks w c b) (hb : vmakeRow P σ t l c = some (v, σ')) :
    MOk P base w0 g σ w (Instr.makeSlice t a b) v σ' := by
  unfold vmakeRow at hb
  split at hb
  · rename_i e k1 l k2 c hu
    simp only [VR] at hl hc; subst hl hc
    split at hb
    · rename_i by_ sz z hby hsz hz
      obtain ⟨it, uz, hit, hzu, ho⟩ := zeroT_parts hz
      split at hb
      · rename_i hcond
        obtain ⟨h0, h1, h2, h3, h4, h5⟩ := hcond
        injection hb with hb
        injection hb with hv hs
        subst hv hs
        have hby' : it.bytes = by_ := by rw [hit] at hby; simpa using hby
        have hsz' : it.size = sz := by unfold sizeT at hsz; rw [hit] at hsz; simpa using hsz
        have hbound : (it.bytes : Int) * c ≤ 281474976710656 := by
          rw [hby']
          have e1 : (by_ : Int) * c = ((by_ * c.toNat : Nat) : Int) := by rw [Int.natCast_mul]; congr 1; omega
          rw [e1]
          omega
        have hrun := run_make (P := P) w t e it uz hu hit hzu k1 k2 l c h0 h1 hbound (by omega)
        have hzr := vcells_ok (ofVal_ok (g := g) (s := σ.toks) (w := w) ho)
        have hrow : VRs g σ.toks w (zeroCellsV (vcells z) (l.toNat * sz)) ((Array.range (l.toNat * sz)).map (uz.cells[· % uz.cells.size]!)).toList := zeroCellsV_ok hzr (by omega) _
        have hN := newRowO_ok h (madeCells uz.cells (c.toNat * it.size)) e _ _ hrow (by
            have := toList_range_map_take uz.cells (l.toNat * sz) (c.toNat * it.size) (by rw [hsz']; exact Nat.mul_le_mul_right _ (by omega))
            simp only [madeCells]
            rw [Array.length_toList, Array.size_map, Array.size_range]
            exact this) l.toNat c.toNat sz (by omega) (by unfold maxLen; omega) (by rw [size_madeCells, hsz'])
        exact ⟨_, _, _, hrun, hN.1, hN.2.1, hN.2.2⟩
      · cases hb
    · cases hb
  · cases hb

/-! ### Literals -/
def vbuildRow (P : Program) (σ : St) (t : TypeId) (len : Nat) (parts : List (Nat × V)) : Option (V × St) :=
  match P.underlying t with
  | some (.slice e) => match sizeT P e, zeroT P e with
    | some sz, some z =>
      if len * sz ≤ 16777216 ∧ (vcells z).length = sz ∧ 0 < sz then
        (vfill (fun i => some (i * sz, sz)) (zeroCellsV (vcells z) (len * sz)) parts).map fun cs => (.hslice σ.objs.length 0 sz len, ⟨σ.objs ++ [.cells cs], σ.toks⟩)
      else none
    | _, _ => none
  | _ => none
theorem vbuildRow_ok (h : Rel base w0 g σ w) {t : TypeId} {len : Nat} {parts : List (Nat × V)} {parts' : Array (Nat × Value)} {v : V} {σ' : St} (hp : PartsR g σ.toks w parts parts'.toList) (hb : vbuildRow P σ t len parts = some (v, σ')) :
    MOk P base w0 g σ w (Instr.buildSlice t len parts') v σ' := by
  unfold vbuildRow at hb
  split at hb
  · rename_i e hu
    split at hb
    · rename_i sz z hsz hz
      obtain ⟨it, uz, hit, hzu, ho⟩ := zeroT_parts hz
      split at hb
      · rename_i hc
        obtain ⟨hc1, hc2, hc3⟩ := hc
        rw [Option.map_eq_some_iff] at hb
        obtain ⟨cs, hf, hb⟩ := hb
        injection hb with hv hs
        subst hv hs
        have hzr := vcells_ok (ofVal_ok (g := g) (s := σ.toks) (w := w) ho)
        have hlen := length_vfill hf
        have hlz : (zeroCellsV (vcells z) (len * sz)).length = len * sz := by simp [zeroCellsV]
        have hrz : (zeroValue e).run P w = .ok uz w := by simp [zeroValue, typeInfo, hit, hzu]
        have hrow : VRs g σ.toks w (zeroCellsV (vcells z) (len * sz)) ((Array.range (len * sz)).map (uz.cells[· % uz.cells.size]!)).toList := zeroCellsV_ok hzr (by omega) _
        obtain ⟨xs, hx, hr⟩ := vfill_ok (place' := fun i => some (i * sz, sz)) (fun i => rfl) hp hrow hf
        have hxl : xs.size = len * sz := by have h9 : cs.length = xs.size := (by have := hr.length; simpa using this); omega
        have hN := newRowO_ok h xs e cs xs.toList hr List.take_length len len sz (Nat.le_refl _) (by
          have : len ≤ len * sz := Nat.le_mul_of_pos_right _ hc3
          unfold maxLen
          omega) hxl
        refine ⟨.slice (some ⟨w.heap.size, 0, none⟩) len len, w.alloc (.cells xs e), _, ?_, hN.1, hN.2.1, hN.2.2⟩
        have n1 : ¬ (len * sz > 2 ^ 24) := by omega
        by_cases h0 : len * sz = 0
        · have e0 : ((Array.range (len * sz)).map (uz.cells[· % uz.cells.size]!)) = #[] := by rw [h0]; simp
          rw [e0] at hx
          have h0' : len = 0 ∨ sz = 0 := by rw [← Nat.mul_eq_zero]; exact h0
          have e1 : Array.map (fun _ => (default : Value)) (Array.range 0) = #[] := by apply Array.ext'; simp
          simp [Instr.buildSlice, run_underlying hu, run_sizeT hsz, h0', h0, hx, newRow, newObj, Sem.run, e1]
        · have h0' : ¬ (len = 0 ∨ sz = 0) := by rw [← Nat.mul_eq_zero]; exact h0
          have n2 : len * sz ≠ 0 := h0
          simp [Instr.buildSlice, run_underlying hu, run_sizeT hsz, h0', hrz, hx, newRow, newObj, Sem.run, show ¬ (16777216 < len * sz) from by omega]
          intro h9
          exact absurd h9 n2
      · cases hb
    · cases hb
  · cases hb

/-! ### append -/
theorem run_append_inO {t t2 ty e : TypeId} {i : TypeInfo} (ht : P.underlying t = some (.slice e)) (hi : P.info? e = some i) {u : Value} {news : List Value} {m : Nat} (hs : Src P w t2 i.size u news m)
    (b o n cap : Nat) (cur : Array Value) (e' : TypeId) (hb : w.heap[b]? = some (.cells cur e' (0, 0))) (hroom : n + m ≤ cap) (hcur : o + cap * i.size ≤ cur.size) (h1 : ∀ u ∈ news, u.oneCell' = true) :
    (Builtin.append_ #[t, t2] ty #[.slice (some ⟨b, o, none⟩) n cap, u]).run P w =
      .ok (.slice (some ⟨b, o, none⟩) (n + m) cap) (w.setRow b (cur.toList.take (o + n * i.size) ++ news ++ cur.toList.drop (o + n * i.size + news.length)).toArray) := by
  have hl := hs.len
  have hf := hs.cells
  have hfit : o + n * i.size + news.length ≤ cur.size := by
    have : (n + m) * i.size ≤ cap * i.size := Nat.mul_le_mul_right _ hroom
    rw [Nat.add_mul] at this
    rw [hs.size]; omega
  have hst := run_storeCells_at P b (o + n * i.size) e' news 0 cur w hb (by simpa using hfit) h1
  simp only [Nat.add_zero] at hst
  rcases hs.ty with ⟨e2, hu⟩ | hu <;> simp [Builtin.append_, run_underlying ht, run_underlying hu, sizeOf, typeInfo, hi, hl, hroom, hf, Addr.add_lit, hst]

theorem grownO_ok (h : Rel base w0 g σ w) {e : TypeId} {z : Value} {sz : Nat} (hz : z.cells.size = sz) (olds news : List Value) (cs ys : List V) (hco : VRs g σ.toks w cs olds) (hy : VRs g σ.toks w ys news) (n m cap : Nat) (hcl : cs.length = n * sz) (hyl : ys.length = m * sz)
    (h63 : n + m ≤ 140737488355328) :
    ∃ g', Ext g σ.toks w g' σ.toks (w.drew.alloc (.cells (olds.toArray ++ news.toArray ++ Builtin.zeroCells z.cells (grownCap w (n + m) cap e - (n + m))) e)) ∧
      Rel base w0 g' ⟨σ.objs ++ [.cells (cs ++ ys)], σ.toks⟩ (w.drew.alloc (.cells (olds.toArray ++ news.toArray ++ Builtin.zeroCells z.cells (grownCap w (n + m) cap e - (n + m))) e)) ∧
      VR g' σ.toks (w.drew.alloc (.cells (olds.toArray ++ news.toArray ++ Builtin.zeroCells z.cells (grownCap w (n + m) cap e - (n + m))) e)) (.hslice σ.objs.length 0 sz (n + m)) (.slice (some ⟨w.heap.size, 0, none⟩) (n + m) (grownCap w (n + m) cap e)) := by
  have hge := grownCap_ge w (n + m) cap e
  have hol := hco.length
  have hnl := hy.length
  have hv : VRs g σ.toks w.drew (cs ++ ys) (olds ++ news) := VRs.ext (Ext.drew g σ.toks w) _ (hco.append hy)
  have hlen : (olds ++ news).length = (n + m) * sz := by rw [List.length_append, Nat.add_mul]; omega
  have := newRowO_ok h.drew (olds.toArray ++ news.toArray ++ Builtin.zeroCells z.cells (grownCap w (n + m) cap e - (n + m))) e (cs ++ ys) (olds ++ news) hv
    (by simp only [Array.toList_append, List.append_assoc]; rw [← List.append_assoc]; exact List.take_left) (n + m) (grownCap w (n + m) cap e) sz hge
    (grownCap_le_maxLen w (n + m) cap e (by unfold maxLen; omega))
    (by
      rw [Array.size_append, Array.size_append, size_zeroCells, hz]
      simp only [List.size_toArray]
      have : olds.length + news.length = (n + m) * sz := by rw [← List.length_append]; exact hlen
      rw [this, ← Nat.add_mul]
      congr 1
      omega)
  exact ⟨_, (Ext.drew g σ.toks w).trans this.1, this.2.1, this.2.2⟩

def vappendRow (P : Program) (σ : St) (t t2 : TypeId) (s x : V) : Option (V × St) :=
  match P.underlying t with
  | some (.slice e) => match (P.info? e).map (·.bytes), sizeT P e, zeroT P e with
    | some by_, some sz, some z => match vnewsO P σ.objs t2 x sz with
      | some (ys, m) =>
        if (vcells z).length ≠ sz ∨ sz = 0 then none else
        match s with
        | .nils => if m = 0 then some (.nils, σ) else
          if m ≤ 140737488355328 ∧ m * by_ ≤ 140737488355328 then some (.hslice σ.objs.length 0 sz m, ⟨σ.objs ++ [.cells ys], σ.toks⟩) else none
        | .slice .exact e2 cs n => if m = 0 then some (.slice .exact e2 cs n, σ) else
          if e2 = sz ∧ n + m ≤ 140737488355328 ∧ (n + m) * by_ ≤ 140737488355328 then some (.hslice σ.objs.length 0 sz (n + m), ⟨σ.objs ++ [.cells (cs ++ ys)], σ.toks⟩) else none
        | .hslice r off e2 n => if m = 0 then some (.hslice r off e2 n, σ) else
          match σ.objs[r]? with
          | some (.cells cs) => if e2 = sz ∧ n + m ≤ 140737488355328 ∧ (n + m) * by_ ≤ 140737488355328 ∧ off + n * sz ≤ cs.length ∧ ys.all one = true then
              some (.hslice σ.objs.length 0 sz (n + m), ⟨σ.objs.set r .dead ++ [.cells ((cs.drop off).take (n * sz) ++ ys)], σ.toks⟩) else none
          | _ => none
        | _ => none
      | none => none
    | _, _, _ => none
  | _ => none

theorem vappendRow_ok (h : Rel base w0 g σ w) {t t2 ty : TypeId} {s x v : V} {a b : Value} {σ' : St} (hs : VR g σ.toks w s a) (hx : VR g σ.toks w x b) (ha : vappendRow P σ t t2 s x = some (v, σ')) :
    MOk P base w0 g σ w (Builtin.append_ #[t, t2] ty #[a, b]) v σ' := by
  unfold vappendRow at ha
  split at ha
  · rename_i e ht
    split at ha
    · rename_i by_ sz z hby hsz hz
      obtain ⟨it, uz, hit, hzu, ho⟩ := zeroT_parts hz
      have hby' : it.bytes = by_ := by rw [hit] at hby; simpa using hby
      have hsz' : it.size = sz := by unfold sizeT at hsz; rw [hit] at hsz; simpa using hsz
      split at ha
      · rename_i ys m hn
        obtain ⟨news, hsrc, hvn⟩ := vnewsO_ok h hx hn
        rw [← hsz'] at hsrc
        have hyl : ys.length = m * sz := by rw [hvn.length, hsrc.size, hsz']
        split at ha
        · cases ha
        · rename_i hz0
          have hz1 : (vcells z).length = sz := Classical.byContradiction fun h => hz0 (.inl h)
          have hz2 : sz ≠ 0 := fun h => hz0 (.inr h)
          have hzc : uz.cells.size = sz := by
            have := (vcells_ok (ofVal_ok (g := g) (s := σ.toks) (w := w) ho)).length
            rw [← hz1, this]
            simp
          split at ha
          · simp only [VR] at hs; subst hs
            split at ha
            · rename_i hm
              subst hm
              injection ha with ha
              injection ha with h1 h2
              subst h1 h2
              exact ⟨.slice none 0 0, w, g, run_append_zero ht hit hsrc none 0 0 (Nat.le_refl _), Ext.refl _ _ _, h, by simp [VR]⟩
            · rename_i hm
              split at ha
              · rename_i hb
                injection ha with ha
                injection ha with h1 h2
                subst h1 h2
                have hrun := run_append_grow' (ty := ty) ht hit hzu hsrc none 0 0 (olds := []) (by simp [Builtin.firstCells]) (by omega) (by omega) (by rw [Nat.zero_add, hby']; exact hb.2)
                obtain ⟨g', hE, hR, hV⟩ := grownO_ok (e := e) h hzc [] news [] ys (by simp [VRs]) hvn 0 m 0 (by simp) hyl (by omega)
                refine ⟨_, _, g', hrun, hE, by simpa using hR, ?_⟩
                simpa using hV
              · cases ha
          · rename_i e2 cs n
            split at ha
            · rename_i hm
              subst hm
              injection ha with ha
              injection ha with h1 h2
              subst h1 h2
              have hs2 := hs
              simp only [VR] at hs2
              obtain ⟨ad, cap, us, rfl, hl, hc, hmx, hr, hvs, hp⟩ := hs2
              exact ⟨_, w, g, run_append_zero ht hit hsrc _ n cap hc, Ext.refl _ _ _, h, hs⟩
            · rename_i hm
              split at ha
              · rename_i hb
                obtain ⟨hb1, hb2, hb3⟩ := hb
                subst hb1
                injection ha with ha
                injection ha with h1 h2
                subst h1 h2
                simp only [VR] at hs
                obtain ⟨ad, cap, us, rfl, hl, hc, hmx, hr, hvs, hp⟩ := hs
                simp only [PermOk] at hp
                have hold : (Builtin.firstCells it.size n (.slice (some ad) n cap)).run P w.drew = .ok us.toArray w.drew :=
                  run_firstCells_some w.drew it.size n _ n cap us (by rw [← hvs.length, hl, hsz']) (fun j v hj => hr.cell j v hj)
                have hrun := run_append_grow' (ty := ty) ht hit hzu hsrc (some ad) n cap hold (by omega) hb2 (by rw [hby']; exact hb3)
                obtain ⟨g', hE, hR, hV⟩ := grownO_ok (e := e) h hzc us news cs ys hvs hvn n m cap hl hyl hb2
                exact ⟨_, _, g', hrun, hE, hR, hV⟩
              · cases ha
          · rename_i r off e2 n
            split at ha
            · rename_i hm
              subst hm
              injection ha with ha
              injection ha with h1 h2
              subst h1 h2
              have hs2 := hs
              simp only [VR] at hs2
              obtain ⟨hrn, cap, rfl, hc, hmx, hbs⟩ := hs2
              exact ⟨_, w, g, run_append_zero ht hit hsrc _ n cap hc, Ext.refl _ _ _, h, hs⟩
            · rename_i hm
              split at ha
              · rename_i cs hr
                split at ha
                · rename_i hb
                  obtain ⟨hb1, hb2, hb3, hb4, hb5⟩ := hb
                  subst hb1
                  injection ha with ha
                  injection ha with h1 h2
                  subst h1 h2
                  simp only [VR] at hs
                  obtain ⟨hrn, cap, rfl, hc, hmx, hbs⟩ := hs
                  obtain ⟨olds, hvo, hol, hcell⟩ := h.part hr off (n * e2) hb4
                  have hcl : ((cs.drop off).take (n * e2)).length = n * e2 := by rw [hvo.length, hol]
                  obtain ⟨o1, o2, c, ty', us, hh, hus, hlen, hcc⟩ := h.obj r _ hr
                  have hrl : r < σ.objs.length := (List.getElem?_eq_some_iff.1 hr).1
                  have hbs' : g.ob r + off + cap * e2 ≤ c.size := by
                    simp only [World.bsize, hh] at hbs
                    exact hbs
                  by_cases hroom : n + m ≤ cap
                  · have hrun := run_append_inO (ty := ty) ht hit hsrc (g.ρ r) (g.ob r + off) n cap c ty' hh hroom (by rw [hsz']; exact hbs') (ones_ok hvn hb5)
                    have hnl := hsrc.size
                    have hfit : g.ob r + off + n * it.size + news.length ≤ c.size := by
                      have : (n + m) * e2 ≤ cap * e2 := Nat.mul_le_mul_right _ hroom
                      rw [Nat.add_mul] at this
                      rw [hnl, hsz']; omega
                    have hsize : ((c.toList.take (g.ob r + off + n * it.size) ++ news ++ c.toList.drop (g.ob r + off + n * it.size + news.length)).toArray).size = c.size := by
                      simp only [List.size_toArray, List.length_append, List.length_take, List.length_drop, Array.length_toList]
                      omega
                    obtain ⟨E, R⟩ := h.reuse (w' := w.setRow (g.ρ r) (c.toList.take (g.ob r + off + n * it.size) ++ news ++ c.toList.drop (g.ob r + off + n * it.size + news.length)).toArray) hr hh (setRow_heap w (g.ρ r) c _ ty' _ hh) hsize
                      (fun q hq => setRow_other w (g.ρ r) q _ hq) (by simp) rfl rfl rfl (g.ob r + off) ((cs.drop off).take (n * e2) ++ ys) (olds ++ news) (hvo.append hvn) (by rw [List.length_append, hol, hnl, hsz'] at *; omega)
                      (fun i u hi => by
                        simp only [List.getElem?_toArray, List.append_assoc]
                        by_cases hin : i < olds.length
                        · rw [List.getElem?_append_left hin] at hi
                          have h9 := hcell i u hi
                          simp only [World.cell?, hh] at h9
                          rw [List.getElem?_append_left (by simp only [List.length_take, Array.length_toList]; rw [hsz'] at *; omega), List.getElem?_take_of_lt (by rw [hsz']; omega)]
                          simpa using h9
                        · rw [List.getElem?_append_right (by omega)] at hi
                          have hil := (List.getElem?_eq_some_iff.1 hi).1
                          have e1 : (c.toList.take (g.ob r + off + n * it.size)).length = g.ob r + off + n * it.size := by simp only [List.length_take, Array.length_toList]; omega
                          rw [List.getElem?_append_right (by rw [e1, hsz']; omega), e1, List.getElem?_append_left (by rw [hsz']; omega)]
                          rw [← hi]
                          congr 1
                          rw [hsz']; omega)
                    refine ⟨_, _, _, hrun, E, R, ?_⟩
                    have hn := h.n
                    simp only [VR, Gh.over]
                    rw [if_pos hn.symm, if_pos hn.symm]
                    refine ⟨⟨by show σ.objs.length < g.n + 1; omega, by show (if σ.objs.length = g.n then false else g.hid σ.objs.length) = false; rw [if_pos hn.symm]⟩, cap, rfl, hroom, hmx, ?_⟩
                    simp only [World.bsize, setRow_heap w (g.ρ r) c _ ty' _ hh]
                    rw [hsize]
                    exact hbs'
                  · have hold : (Builtin.firstCells it.size n (.slice (some ⟨g.ρ r, g.ob r + off, none⟩) n cap)).run P w.drew = .ok olds.toArray w.drew :=
                      run_firstCells_some w.drew it.size n _ n cap olds (by rw [hol, hsz']) (fun j v hj => by rw [Addr.add_lit]; exact hcell j v hj)
                    have hrun := run_append_grow' (ty := ty) ht hit hzu hsrc (some ⟨g.ρ r, g.ob r + off, none⟩) n cap hold (by omega) hb2 (by rw [hby']; exact hb3)
                    obtain ⟨g', hE, hR, hV⟩ := grownO_ok (e := e) (h.bury r (by rw [hr]; intro h; cases h)) hzc olds news ((cs.drop off).take (n * e2)) ys hvo hvn n m cap hcl hyl hb2
                    rw [List.length_set] at hV
                    exact ⟨_, _, g', hrun, hE, hR, hV⟩
                · cases ha
              · cases ha
          · cases ha
      · cases ha
    · cases ha
  · cases ha

/-! ### An operation that makes such rows -/
def vhot (P : Program) (tmps : List V) (σ : St) (o : Op) : Option (V × St) := match o with
  | .makeSlice t l c => match evs tmps l, evs tmps c with
    | some a, some b => vmakeRow P σ t a b
    | _, _ => none
  | .buildSlice t len parts => match evParts tmps parts.toList with
    | some ps => vbuildRow P σ t len ps
    | none => none
  | .call { callee := .builtin .append, args, argTypes } => match evAll tmps args.toList, argTypes.toList with
    | some [s, x], [t, t2] => vappendRow P σ t t2 s x
    | _, _ => none
  | _ => none

/-- The operations that make rows. -/
def rowOp : Op → Bool
  | .makeSlice _ _ _ => true
  | .buildSlice _ _ _ => true
  | .call { callee := .builtin .append, .. } => true
  | _ => false
/-- Those of some lines. -/
def hotAt (ps : List String) : Oper → Bool := fun o => rowOp o.op && ps.contains o.pos

theorem vhot_ok (h : Rel base w0 g σ w) {a : Act} {tmps : List V} (ht : VRs g σ.toks w tmps a.tmps.toList) {o : Oper} {v : V} {σ' : St} (hv : vhot P tmps σ o.op = some (v, σ')) : OOk P base w0 g σ w (execOp a.eval o) v σ' := by
  unfold vhot at hv
  split at hv
  · rename_i t l c ho
    split at hv
    · rename_i x y hx hy
      have := OOk.of_mem (vmakeRow_ok h (evs_ok ht hx) (evs_ok ht hy) hv)
      simpa only [execOp, ho] using this
    · cases hv
  · rename_i t len parts ho
    split at hv
    · rename_i ps hps
      have hP := evParts_ok ht hps
      have := OOk.of_mem (vbuildRow_ok (parts' := parts.map fun p => (p.1, a.eval p.2)) h (by simpa using hP) hv)
      simpa only [execOp, ho] using this
    · cases hv
  · rename_i args argTypes ho
    split at hv
    · rename_i s x t t2 hvs hts
      have hA := evAll_ok ht hvs
      simp only [VRs] at hA
      obtain ⟨u, us', hus, hxu, u2, us2, hus2, hxu2, hnil⟩ := hA
      have hargs : args.map a.eval = #[u, u2] := by apply Array.ext'; simp [hus, hus2, hnil]
      have hT : argTypes = #[t, t2] := by apply Array.ext'; simpa using hts
      obtain ⟨r, w', g', hr, hE, hR, hV⟩ := vappendRow_ok (ty := o.type) h hxu hxu2 hv
      exact ⟨.value r, r, w', g', by simp [execOp, ho, resolve, invoke, builtin, hargs, hT, hr], .inl rfl, hE, hR, hV⟩
    · cases hv
  · cases hv
end
end Go.Proofs.Ytmcadfejkcpblaa.Q
