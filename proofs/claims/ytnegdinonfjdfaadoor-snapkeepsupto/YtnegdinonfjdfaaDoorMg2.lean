/- A part of the proof: Qv, Qh, Qw, Qhb, Qlp. -/
import Derived.Test.YtnegdinonfjdfaaDoorMg1
import Derived.RangeFuncRecord
set_option linter.unusedVariables false
set_option linter.unusedSimpArgs false
namespace Go.Proofs.YtnegdinonfjdfaaDoor.Q
open Go Go.RowKit
section
variable {P : Program} {base : Nat} {w0 : World} {g : Gh} {σ : St} {w : World}
theorem Rel.newPre (h : Rel base w0 g σ w) (c : Array Value) (ty : TypeId) (cs : List V) (us : List Value) (hv : VRs g σ.toks w cs us) (hpre : c.toList.take us.length = us) :
    Rel base w0 (g.obj w.heap.size) ⟨σ.objs ++ [.cells cs], σ.toks⟩ (w.alloc (.cells c ty)) := by
  refine h.newG c ty _ ?_
  simp only [ObjOk, Gh.obj]
  rw [if_pos h.n.symm, if_pos h.n.symm]
  have hle : us.length ≤ c.size := by
    have := congrArg List.length hpre
    rw [List.length_take] at this
    have h2 : c.toList.length = c.size := Array.length_toList
    omega
  refine ⟨h.bs, h.lim _ (Nat.le_refl _), c, ty, us, heap_alloc_eq _ _, VRs.ext (Ext.obj h _) cs hv, by omega, fun i u hu => ?_⟩
  have hil : i < us.length := (gA0.1 hu).1
  rw [← hpre, List.getElem?_take_of_lt hil] at hu
  rw [Nat.zero_add]
  simpa using hu
theorem newRowO_ok (h : Rel base w0 g σ w) (c : Array Value) (e : TypeId) (cs : List V) (us : List Value) (hv : VRs g σ.toks w cs us) (hpre : c.toList.take us.length = us) (len cap sz : Nat) (hc : len ≤ cap) (hm : cap ≤ maxLen) (hx : c.size = cap * sz) :
    Ext g σ.toks w (g.obj w.heap.size) σ.toks (w.alloc (.cells c e)) ∧
    Rel base w0 (g.obj w.heap.size) ⟨σ.objs ++ [.cells cs], σ.toks⟩ (w.alloc (.cells c e)) ∧
    VR (g.obj w.heap.size) σ.toks (w.alloc (.cells c e)) (.hslice σ.objs.length 0 sz len) (.slice (some ⟨w.heap.size, 0, none⟩) len cap) := by
  refine ⟨Ext.obj h _, h.newPre c e cs us hv hpre, ?_⟩
  have hn := h.n
  simp only [VR, Gh.obj]
  rw [if_pos hn.symm, if_pos hn.symm]
  refine ⟨⟨by show σ.objs.length < g.n + 1; omega, by show (if σ.objs.length = g.n then false else g.hid σ.objs.length) = false; rw [if_pos hn.symm]⟩, cap, rfl, hc, hm, ?_⟩
  simp only [World.bsize, heap_alloc_eq]
  omega
theorem alive_kill {objs : List Ob} {r k : Nat} (h : aliveAt (objs.set r .dead) k) : aliveAt objs k ∧ k ≠ r := by
  obtain ⟨o, ho, hd⟩ := h
  rw [List.getElem?_set] at ho
  split at ho
  · rename_i e
    split at ho
    · injection ho with ho; subst ho; exact (hd trivial).elim
    · cases ho
  · rename_i e
    exact ⟨⟨o, ho, hd⟩, fun h => e h.symm⟩
theorem Rel.bury (h : Rel base w0 g σ w) (r : Nat) (hnu : ¬ σ.objs[r]? = some .unb) : Rel base w0 g ⟨σ.objs.set r .dead, σ.toks⟩ w where
  below := h.below
  bs := h.bs
  n := by simpa using h.n
  hid k := by
    by_cases e : r = k
    · subst e
      rw [List.getElem?_set_self', h.hid]
      constructor
      · intro h; exact absurd h hnu
      · intro h
        cases hs : σ.objs[r]? with
        | none => rw [hs] at h; cases h
        | some o => rw [hs] at h; cases h
    · rw [gA3 e]; exact h.hid k
  obj k o hk := by
    rw [List.getElem?_set] at hk
    split at hk
    · split at hk
      · injection hk with hk; subst hk; trivial
      · cases hk
    · exact h.obj k o hk
  inj a b ha hb := h.inj a b (alive_kill ha).1 (alive_kill hb).1
  tok t ht := by
    obtain ⟨h1, h2, h3⟩ := h.tok t ht
    exact ⟨h1, h2, fun a ha => h3 a (alive_kill ha).1⟩
  tinj := h.tinj
  lim := h.lim
def Gh.over (g : Gh) (B o : Nat) : Gh := { g with n := g.n + 1, hid := fun r => if r = g.n then false else g.hid r, ρ := fun r => if r = g.n then B else g.ρ r, ob := fun r => if r = g.n then o else g.ob r }
theorem Rel.reuse {w' : World} (h : Rel base w0 g σ w) {r : Nat} {cs : List V} (hr : σ.objs[r]? = some (.cells cs)) {c c' : Array Value} {ty : TypeId}
    (hb : w.heap[g.ρ r]? = some (.cells c ty (0, 0))) (hb' : w'.heap[g.ρ r]? = some (.cells c' ty (0, 0))) (hs : c'.size = c.size) (ho : ∀ k, k ≠ g.ρ r → w'.heap[k]? = w.heap[k]?)
    (hsz : w'.heap.size = w.heap.size) (hos : w'.os = w.os) (htp : w'.tape = w.tape) (hout : w'.output = w.output) (o : Nat) (ns : List V) (us : List Value) (hv : VRs g σ.toks w ns us) (hfit : o + us.length ≤ c.size) (hus : ∀ i u, us[i]? = some u → c'[o + i]? = some u) :
    Ext g σ.toks w (g.over (g.ρ r) o) σ.toks w' ∧ Rel base w0 (g.over (g.ρ r) o) ⟨σ.objs.set r .dead ++ [.cells ns], σ.toks⟩ w' := by
  obtain ⟨hbase, hL, _⟩ := h.obj r _ hr
  have hrl : r < σ.objs.length := (gA0.1 hr).1
  have halr : aliveAt σ.objs r := ⟨_, hr, fun h => by cases h⟩
  have hn := h.n
  have E : Ext g σ.toks w (g.over (g.ρ r) o) σ.toks w' := {
    n := by simp [Gh.over]
    has := fun k hk => by obtain ⟨h1, h2⟩ := hk; exact ⟨by simp [Gh.over]; omega, by simp only [Gh.over]; rw [if_neg (by omega)]; exact h2⟩
    ρ := fun k hk => by have := hk.1; simp only [Gh.over]; rw [if_neg (by omega)]
    ob := fun k hk => by have := hk.1; simp only [Gh.over]; rw [if_neg (by omega)]
    L := fun _ => Nat.le_refl _
    cells := fun b q hlo => by
      by_cases eb : b = g.ρ r
      · subst eb; rw [hL] at hlo; omega
      · exact cell?_heap (ho b eb) q
    shape := fun b c2 ty2 fr hbb => by
      by_cases eb : b = g.ρ r
      · subst eb
        rw [hb] at hbb
        injection hbb with hbb
        injection hbb with h1 h2 h3
        subst h1 h2 h3
        exact ⟨c', _, hb', hs, .inl rfl⟩
      · exact ⟨c2, fr, (ho b eb).trans hbb, rfl, .inl rfl⟩
    dfr := fun b x hbb => by
      by_cases eb : b = g.ρ r
      · subst eb; rw [hb] at hbb; cases hbb
      · exact (ho b eb).trans hbb
    nt := Nat.le_refl _
    tok := fun s _ hl => ⟨hl, rfl, rfl⟩ }
  refine ⟨E, ?_⟩
  have old : ∀ k, aliveAt (σ.objs.set r .dead ++ [Ob.cells ns]) k → (aliveAt σ.objs k ∧ k ≠ r ∧ k < g.n) ∨ k = g.n := by
    intro k hk
    rcases alive_append hk with h1 | h1
    · exact .inl ⟨(alive_kill h1).1, (alive_kill h1).2, by rw [hn]; exact alive_lt (alive_kill h1).1⟩
    · exact .inr (by rw [hn, h1]; simp)
  exact {
    below := h.below.trans ⟨hos, htp, hout, by omega, fun i hi => ho i (by omega)⟩
    bs := by rw [hsz]; exact h.bs
    n := by simp [Gh.over, hn]
    hid := fun k => by
      simp only [Gh.over]
      rcases Nat.lt_or_ge k σ.objs.length with h1 | h1
      · rw [if_neg (by rw [hn]; omega), gA2 (by simpa using h1)]
        by_cases e : r = k
        · subst e
          rw [gA5 h1, h.hid, hr]
          constructor <;> (intro h; cases h)
        · rw [gA3 e]
          exact h.hid k
      · have h2 : g.hid k = false := by
          cases e : g.hid k with
          | false => rfl
          | true => have := (gA0.1 ((h.hid k).1 e)).1; omega
        rw [h2]
        constructor
        · intro h; split at h <;> cases h
        · intro hu
          have h3 := (gA0.1 hu).1
          simp only [List.length_append, List.length_singleton, List.length_set] at h3
          have : k = σ.objs.length := by omega
          subst this
          rw [gA4 (by simp)] at hu
          simp at hu
    obj := fun k ob hk => by
      rcases Nat.lt_or_ge k σ.objs.length with h1 | h1
      · rw [gA2 (by simpa using h1), List.getElem?_set] at hk
        split at hk
        · first
            | (injection hk with hk; subst hk; trivial)
            | (split at hk
               · injection hk with hk; subst hk; trivial
               · cases hk)
        · rename_i hne
          by_cases hd : ob.gone
          · exact ObjOk.gone hd
          · have hal : aliveAt σ.objs k := ⟨ob, hk, hd⟩
            have hne2 : g.ρ k ≠ g.ρ r := fun e => hne (h.inj k r hal halr e).symm
            exact (h.obj k ob hk).ext E (h.hasO hk) (ho _ hne2) rfl
      · have hkk : k = σ.objs.length := by
          have := (gA0.1 hk).1
          simp only [List.length_append, List.length_set, List.length_singleton] at this
          omega
        subst hkk
        rw [gA4 (by simp)] at hk
        simp at hk
        subst hk
        simp only [ObjOk, Gh.over]
        rw [if_pos hn.symm, if_pos hn.symm]
        exact ⟨hbase, hL, c', ty, us, hb', VRs.ext E ns hv, by omega, hus⟩
    inj := fun a b ha hb2 he => by
      simp only [Gh.over] at he
      rcases old a ha with ⟨a1, a2, a3⟩ | a1 <;> rcases old b hb2 with ⟨b1, b2, b3⟩ | b1
      · rw [if_neg (by omega), if_neg (by omega)] at he
        exact h.inj a b a1 b1 he
      · rw [if_neg (by omega), if_pos b1] at he
        exact absurd (h.inj a r a1 halr he) a2
      · rw [if_pos a1, if_neg (by omega)] at he
        exact absurd (h.inj r b halr b1 he).symm b2
      · omega
    tok := fun t ht => by
      obtain ⟨h1, h2, h3⟩ := h.tok t ht
      refine ⟨h1, by rw [hsz]; exact h2, fun a ha => ?_⟩
      simp only [Gh.over]
      rcases old a ha with ⟨a1, a2, a3⟩ | a1
      · rw [if_neg (by omega)]; exact h3 a a1
      · rw [if_pos a1]; exact h3 r halr
    tinj := h.tinj
    lim := fun b hbb => h.lim b (by rw [hsz] at hbb; exact hbb) }
def vmakeRow (P : Program) (σ : St) (t : TypeId) (l c : V) : Option (V × St) :=
  match P.underlying t, l, c with
  | some (.slice e), .int _ l, .int _ c => match (P.info? e).map (·.bytes), sizeT P e, zeroT P e with
    | some by_, some sz, some z =>
      if 0 ≤ l ∧ l ≤ c ∧ by_ * c.toNat ≤ 140737488355328 ∧ c ≤ 140737488355328 ∧ (vcells z).length = sz ∧ 0 < sz then
        some (.hslice σ.objs.length 0 sz l.toNat, ⟨σ.objs ++ [.cells (zeroCellsV (vcells z) (l.toNat * sz))], σ.toks⟩)
      else none
    | _, _, _ => none
  | _, _, _ => none
theorem vmakeRow_ok (h : Rel base w0 g σ w) {t : TypeId} {l c : V} {a b : Value} {v : V} {σ' : St} (hl : VR g σ.toks w l a) (hc : VR g σ.toks w c b) (hb : vmakeRow P σ t l c = some (v, σ')) :
    MOk P base w0 g σ w (Instr.makeSlice t a b) v σ' := by
  unfold vmakeRow at hb
  split at hb
  · rename_i e k1 l k2 c hu
    simp only [VR] at hl hc; subst hl hc
    split at hb
    · rename_i by_ sz z hby hsz hz
      obtain ⟨it, uz, hit, hzu, ho⟩ := zeroT_parts hz
      split at hb
      · rename_i hcond
        obtain ⟨h0, h1, h2, h3, h4, h5⟩ := hcond
        injection hb with hb
        injection hb with hv hs
        subst hv hs
        have hby' : it.bytes = by_ := by rw [hit] at hby; simpa using hby
        have hsz' : it.size = sz := by unfold sizeT at hsz; rw [hit] at hsz; simpa using hsz
        have hbound : (it.bytes : Int) * c ≤ 281474976710656 := by
          rw [hby']
          have e1 : (by_ : Int) * c = ((by_ * c.toNat : Nat) : Int) := by rw [Int.natCast_mul]; congr 1; omega
          rw [e1]
          omega
        have hrun := run_make (P := P) w t e it uz hu hit hzu k1 k2 l c h0 h1 hbound (by omega)
        have hzr := vcells_ok (ofVal_ok (g := g) (s := σ.toks) (w := w) ho)
        have hrow : VRs g σ.toks w (zeroCellsV (vcells z) (l.toNat * sz)) ((Array.range (l.toNat * sz)).map (uz.cells[· % uz.cells.size]!)).toList := zeroCellsV_ok hzr (by omega) _
        have hN := newRowO_ok h (madeCells uz.cells (c.toNat * it.size)) e _ _ hrow (by
            have := toList_range_map_take uz.cells (l.toNat * sz) (c.toNat * it.size) (by rw [hsz']; exact Nat.mul_le_mul_right _ (by omega))
            simp only [madeCells]
            rw [Array.length_toList, Array.size_map, Array.size_range]
            exact this) l.toNat c.toNat sz (by omega) (by unfold maxLen; omega) (by rw [size_madeCells, hsz'])
        exact ⟨_, _, _, hrun, hN.1, hN.2.1, hN.2.2⟩
      · cases hb
    · cases hb
  · cases hb
def vbuildRow (P : Program) (σ : St) (t : TypeId) (len : Nat) (parts : List (Nat × V)) : Option (V × St) :=
  match P.underlying t with
  | some (.slice e) => match sizeT P e, zeroT P e with
    | some sz, some z =>
      if len * sz ≤ 16777216 ∧ (vcells z).length = sz ∧ 0 < sz then
        (vfill (fun i => some (i * sz, sz)) (zeroCellsV (vcells z) (len * sz)) parts).map fun cs => (.hslice σ.objs.length 0 sz len, ⟨σ.objs ++ [.cells cs], σ.toks⟩)
      else none
    | _, _ => none
  | _ => none
theorem vbuildRow_ok (h : Rel base w0 g σ w) {t : TypeId} {len : Nat} {parts : List (Nat × V)} {parts' : Array (Nat × Value)} {v : V} {σ' : St} (hp : PartsR g σ.toks w parts parts'.toList) (hb : vbuildRow P σ t len parts = some (v, σ')) :
    MOk P base w0 g σ w (Instr.buildSlice t len parts') v σ' := by
  unfold vbuildRow at hb
  split at hb
  · rename_i e hu
    split at hb
    · rename_i sz z hsz hz
      obtain ⟨it, uz, hit, hzu, ho⟩ := zeroT_parts hz
      split at hb
      · rename_i hc
        obtain ⟨hc1, hc2, hc3⟩ := hc
        rw [gA1] at hb
        obtain ⟨cs, hf, hb⟩ := hb
        injection hb with hv hs
        subst hv hs
        have hzr := vcells_ok (ofVal_ok (g := g) (s := σ.toks) (w := w) ho)
        have hlen := length_vfill hf
        have hlz : (zeroCellsV (vcells z) (len * sz)).length = len * sz := by simp [zeroCellsV]
        have hrz : (zeroValue e).run P w = .ok uz w := by simp [zeroValue, typeInfo, hit, hzu]
        have hrow : VRs g σ.toks w (zeroCellsV (vcells z) (len * sz)) ((Array.range (len * sz)).map (uz.cells[· % uz.cells.size]!)).toList := zeroCellsV_ok hzr (by omega) _
        obtain ⟨xs, hx, hr⟩ := vfill_ok (place' := fun i => some (i * sz, sz)) (fun i => rfl) hp hrow hf
        have hxl : xs.size = len * sz := by have h9 : cs.length = xs.size := (by have := hr.length; simpa using this); omega
        have hN := newRowO_ok h xs e cs xs.toList hr List.take_length len len sz (Nat.le_refl _) (by
          have : len ≤ len * sz := Nat.le_mul_of_pos_right _ hc3
          unfold maxLen
          omega) hxl
        refine ⟨.slice (some ⟨w.heap.size, 0, none⟩) len len, w.alloc (.cells xs e), _, ?_, hN.1, hN.2.1, hN.2.2⟩
        have n1 : ¬ (len * sz > 2 ^ 24) := by omega
        by_cases h0 : len * sz = 0
        · have e0 : ((Array.range (len * sz)).map (uz.cells[· % uz.cells.size]!)) = #[] := by rw [h0]; simp
          rw [e0] at hx
          have h0' : len = 0 ∨ sz = 0 := by rw [← Nat.mul_eq_zero]; exact h0
          have e1 : Array.map (fun _ => (default : Value)) (Array.range 0) = #[] := by apply Array.ext'; simp
          simp [Instr.buildSlice, run_underlying hu, run_sizeT hsz, h0', h0, hx, newRow, newObj, Sem.run, e1]
        · have h0' : ¬ (len = 0 ∨ sz = 0) := by rw [← Nat.mul_eq_zero]; exact h0
          have n2 : len * sz ≠ 0 := h0
          simp [Instr.buildSlice, run_underlying hu, run_sizeT hsz, h0', hrz, hx, newRow, newObj, Sem.run, show ¬ (16777216 < len * sz) from by omega]
          intro h9
          exact absurd h9 n2
      · cases hb
    · cases hb
  · cases hb
theorem run_append_inO {t t2 ty e : TypeId} {i : TypeInfo} (ht : P.underlying t = some (.slice e)) (hi : P.info? e = some i) {u : Value} {news : List Value} {m : Nat} (hs : Src P w t2 i.size u news m)
    (b o n cap : Nat) (cur : Array Value) (e' : TypeId) (hb : w.heap[b]? = some (.cells cur e' (0, 0))) (hroom : n + m ≤ cap) (hcur : o + cap * i.size ≤ cur.size) (h1 : ∀ u ∈ news, u.oneCell' = true) :
    (Builtin.append_ #[t, t2] ty #[.slice (some ⟨b, o, none⟩) n cap, u]).run P w =
      .ok (.slice (some ⟨b, o, none⟩) (n + m) cap) (w.setRow b (cur.toList.take (o + n * i.size) ++ news ++ cur.toList.drop (o + n * i.size + news.length)).toArray) := by
  have hl := hs.len
  have hf := hs.cells
  have hfit : o + n * i.size + news.length ≤ cur.size := by
    have : (n + m) * i.size ≤ cap * i.size := Nat.mul_le_mul_right _ hroom
    rw [Nat.add_mul] at this
    rw [hs.size]; omega
  have hst := run_storeCells_at P b (o + n * i.size) e' news 0 cur w hb (by simpa using hfit) h1
  simp only [Nat.add_zero] at hst
  rcases hs.ty with ⟨e2, hu⟩ | hu <;> simp [Builtin.append_, run_underlying ht, run_underlying hu, sizeOf, typeInfo, hi, hl, hroom, hf, Addr.add_lit, hst]
theorem grownO_ok (h : Rel base w0 g σ w) {e : TypeId} {z : Value} {sz : Nat} (hz : z.cells.size = sz) (olds news : List Value) (cs ys : List V) (hco : VRs g σ.toks w cs olds) (hy : VRs g σ.toks w ys news) (n m cap : Nat) (hcl : cs.length = n * sz) (hyl : ys.length = m * sz)
    (h63 : n + m ≤ 140737488355328) :
    ∃ g', Ext g σ.toks w g' σ.toks (w.drew.alloc (.cells (olds.toArray ++ news.toArray ++ Builtin.zeroCells z.cells (grownCap w (n + m) cap e - (n + m))) e)) ∧
      Rel base w0 g' ⟨σ.objs ++ [.cells (cs ++ ys)], σ.toks⟩ (w.drew.alloc (.cells (olds.toArray ++ news.toArray ++ Builtin.zeroCells z.cells (grownCap w (n + m) cap e - (n + m))) e)) ∧
      VR g' σ.toks (w.drew.alloc (.cells (olds.toArray ++ news.toArray ++ Builtin.zeroCells z.cells (grownCap w (n + m) cap e - (n + m))) e)) (.hslice σ.objs.length 0 sz (n + m)) (.slice (some ⟨w.heap.size, 0, none⟩) (n + m) (grownCap w (n + m) cap e)) := by
  have hge := grownCap_ge w (n + m) cap e
  have hol := hco.length
  have hnl := hy.length
  have hv : VRs g σ.toks w.drew (cs ++ ys) (olds ++ news) := VRs.ext (Ext.drew g σ.toks w) _ (hco.append hy)
  have hlen : (olds ++ news).length = (n + m) * sz := by rw [List.length_append, Nat.add_mul]; omega
  have := newRowO_ok h.drew (olds.toArray ++ news.toArray ++ Builtin.zeroCells z.cells (grownCap w (n + m) cap e - (n + m))) e (cs ++ ys) (olds ++ news) hv
    (by simp only [Array.toList_append, List.append_assoc]; rw [← List.append_assoc]; exact List.take_left) (n + m) (grownCap w (n + m) cap e) sz hge
    (grownCap_le_maxLen w (n + m) cap e (by unfold maxLen; omega))
    (by
      rw [Array.size_append, Array.size_append, size_zeroCells, hz]
      simp only [List.size_toArray]
      have : olds.length + news.length = (n + m) * sz := by rw [← List.length_append]; exact hlen
      rw [this, ← Nat.add_mul]
      congr 1
      omega)
  exact ⟨_, (Ext.drew g σ.toks w).trans this.1, this.2.1, this.2.2⟩
def vappendRow (P : Program) (σ : St) (t t2 : TypeId) (s x : V) : Option (V × St) :=
  match P.underlying t with
  | some (.slice e) => match (P.info? e).map (·.bytes), sizeT P e, zeroT P e with
    | some by_, some sz, some z => match vnewsO P σ.objs t2 x sz with
      | some (ys, m) =>
        if (vcells z).length ≠ sz ∨ sz = 0 then none else
        match s with
        | .nils => if m = 0 then some (.nils, σ) else
          if m ≤ 140737488355328 ∧ m * by_ ≤ 140737488355328 then some (.hslice σ.objs.length 0 sz m, ⟨σ.objs ++ [.cells ys], σ.toks⟩) else none
        | .slice .exact e2 cs n => if m = 0 then some (.slice .exact e2 cs n, σ) else
          if e2 = sz ∧ n + m ≤ 140737488355328 ∧ (n + m) * by_ ≤ 140737488355328 then some (.hslice σ.objs.length 0 sz (n + m), ⟨σ.objs ++ [.cells (cs ++ ys)], σ.toks⟩) else none
        | .hslice r off e2 n => if m = 0 then some (.hslice r off e2 n, σ) else
          match σ.objs[r]? with
          | some (.cells cs) => if e2 = sz ∧ n + m ≤ 140737488355328 ∧ (n + m) * by_ ≤ 140737488355328 ∧ off + n * sz ≤ cs.length ∧ ys.all one = true then
              some (.hslice σ.objs.length 0 sz (n + m), ⟨σ.objs.set r .dead ++ [.cells ((cs.drop off).take (n * sz) ++ ys)], σ.toks⟩) else none
          | _ => none
        | .hfull r off e2 n => if m = 0 then some (.hslice r off e2 n, σ) else
          match σ.objs[r]? with
          | some (.cells cs) => if e2 = sz ∧ n + m ≤ 140737488355328 ∧ (n + m) * by_ ≤ 140737488355328 ∧ off + n * sz ≤ cs.length then
              some (.hslice σ.objs.length 0 sz (n + m), ⟨σ.objs ++ [.cells ((cs.drop off).take (n * sz) ++ ys)], σ.toks⟩) else none
          | _ => none
        | _ => none
      | none => none
    | _, _, _ => none
  | _ => none
theorem vappendRow_ok (h : Rel base w0 g σ w) {t t2 ty : TypeId} {s x v : V} {a b : Value} {σ' : St} (hs : VR g σ.toks w s a) (hx : VR g σ.toks w x b) (ha : vappendRow P σ t t2 s x = some (v, σ')) :
    MOk P base w0 g σ w (Builtin.append_ #[t, t2] ty #[a, b]) v σ' := by
  unfold vappendRow at ha
  split at ha
  · rename_i e ht
    split at ha
    · rename_i by_ sz z hby hsz hz
      obtain ⟨it, uz, hit, hzu, ho⟩ := zeroT_parts hz
      have hby' : it.bytes = by_ := by rw [hit] at hby; simpa using hby
      have hsz' : it.size = sz := by unfold sizeT at hsz; rw [hit] at hsz; simpa using hsz
      split at ha
      · rename_i ys m hn
        obtain ⟨news, hsrc, hvn⟩ := vnewsO_ok h hx hn
        rw [← hsz'] at hsrc
        have hyl : ys.length = m * sz := by rw [hvn.length, hsrc.size, hsz']
        split at ha
        · cases ha
        · rename_i hz0
          have hz1 : (vcells z).length = sz := Classical.byContradiction fun h => hz0 (.inl h)
          have hz2 : sz ≠ 0 := fun h => hz0 (.inr h)
          have hzc : uz.cells.size = sz := by
            have := (vcells_ok (ofVal_ok (g := g) (s := σ.toks) (w := w) ho)).length
            rw [← hz1, this]
            simp
          split at ha
          · simp only [VR] at hs; subst hs
            split at ha
            · rename_i hm
              subst hm
              injection ha with ha
              injection ha with h1 h2
              subst h1 h2
              exact ⟨.slice none 0 0, w, g, run_append_zero ht hit hsrc none 0 0 (Nat.le_refl _), Ext.refl _ _ _, h, by simp [VR]⟩
            · rename_i hm
              split at ha
              · rename_i hb
                injection ha with ha
                injection ha with h1 h2
                subst h1 h2
                have hrun := run_append_grow' (ty := ty) ht hit hzu hsrc none 0 0 (olds := []) (by simp [Builtin.firstCells]) (by omega) (by omega) (by rw [Nat.zero_add, hby']; exact hb.2)
                obtain ⟨g', hE, hR, hV⟩ := grownO_ok (e := e) h hzc [] news [] ys (by simp [VRs]) hvn 0 m 0 (by simp) hyl (by omega)
                refine ⟨_, _, g', hrun, hE, by simpa using hR, ?_⟩
                simpa using hV
              · cases ha
          · rename_i e2 cs n
            split at ha
            · rename_i hm
              subst hm
              injection ha with ha
              injection ha with h1 h2
              subst h1 h2
              have hs2 := hs
              simp only [VR] at hs2
              obtain ⟨ad, cap, us, rfl, hl, hc, hmx, hr, hvs, hp⟩ := hs2
              exact ⟨_, w, g, run_append_zero ht hit hsrc _ n cap hc, Ext.refl _ _ _, h, hs⟩
            · rename_i hm
              split at ha
              · rename_i hb
                obtain ⟨hb1, hb2, hb3⟩ := hb
                subst hb1
                injection ha with ha
                injection ha with h1 h2
                subst h1 h2
                simp only [VR] at hs
                obtain ⟨ad, cap, us, rfl, hl, hc, hmx, hr, hvs, hp⟩ := hs
                simp only [PermOk] at hp
                have hold : (Builtin.firstCells it.size n (.slice (some ad) n cap)).run P w.drew = .ok us.toArray w.drew :=
                  run_firstCells_some w.drew it.size n _ n cap us (by rw [← hvs.length, hl, hsz']) (fun j v hj => hr.cell j v hj)
                have hrun := run_append_grow' (ty := ty) ht hit hzu hsrc (some ad) n cap hold (by omega) hb2 (by rw [hby']; exact hb3)
                obtain ⟨g', hE, hR, hV⟩ := grownO_ok (e := e) h hzc us news cs ys hvs hvn n m cap hl hyl hb2
                exact ⟨_, _, g', hrun, hE, hR, hV⟩
              · cases ha
          · rename_i r off e2 n
            split at ha
            · rename_i hm
              subst hm
              injection ha with ha
              injection ha with h1 h2
              subst h1 h2
              have hs2 := hs
              simp only [VR] at hs2
              obtain ⟨hrn, cap, rfl, hc, hmx, hbs⟩ := hs2
              exact ⟨_, w, g, run_append_zero ht hit hsrc _ n cap hc, Ext.refl _ _ _, h, hs⟩
            · rename_i hm
              split at ha
              · rename_i cs hr
                split at ha
                · rename_i hb
                  obtain ⟨hb1, hb2, hb3, hb4, hb5⟩ := hb
                  subst hb1
                  injection ha with ha
                  injection ha with h1 h2
                  subst h1 h2
                  simp only [VR] at hs
                  obtain ⟨hrn, cap, rfl, hc, hmx, hbs⟩ := hs
                  obtain ⟨olds, hvo, hol, hcell⟩ := h.part hr off (n * e2) hb4
                  have hcl : ((cs.drop off).take (n * e2)).length = n * e2 := by rw [hvo.length, hol]
                  obtain ⟨o1, o2, c, ty', us, hh, hus, hlen, hcc⟩ := h.obj r _ hr
                  have hrl : r < σ.objs.length := (gA0.1 hr).1
                  have hbs' : g.ob r + off + cap * e2 ≤ c.size := by
                    simp only [World.bsize, hh] at hbs
                    exact hbs
                  by_cases hroom : n + m ≤ cap
                  · have hrun := run_append_inO (ty := ty) ht hit hsrc (g.ρ r) (g.ob r + off) n cap c ty' hh hroom (by rw [hsz']; exact hbs') (ones_ok hvn hb5)
                    have hnl := hsrc.size
                    have hfit : g.ob r + off + n * it.size + news.length ≤ c.size := by
                      have : (n + m) * e2 ≤ cap * e2 := Nat.mul_le_mul_right _ hroom
                      rw [Nat.add_mul] at this
                      rw [hnl, hsz']; omega
                    have hsize : ((c.toList.take (g.ob r + off + n * it.size) ++ news ++ c.toList.drop (g.ob r + off + n * it.size + news.length)).toArray).size = c.size := by
                      simp only [List.size_toArray, List.length_append, List.length_take, List.length_drop, Array.length_toList]
                      omega
                    obtain ⟨E, R⟩ := h.reuse (w' := w.setRow (g.ρ r) (c.toList.take (g.ob r + off + n * it.size) ++ news ++ c.toList.drop (g.ob r + off + n * it.size + news.length)).toArray) hr hh (setRow_heap w (g.ρ r) c _ ty' _ hh) hsize
                      (fun q hq => setRow_other w (g.ρ r) q _ hq) (by simp) rfl rfl rfl (g.ob r + off) ((cs.drop off).take (n * e2) ++ ys) (olds ++ news) (hvo.append hvn) (by rw [List.length_append, hol, hnl, hsz'] at *; omega)
                      (fun i u hi => by
                        simp only [List.getElem?_toArray, List.append_assoc]
                        by_cases hin : i < olds.length
                        · rw [gA2 hin] at hi
                          have h9 := hcell i u hi
                          simp only [World.cell?, hh] at h9
                          rw [gA2 (by simp only [List.length_take, Array.length_toList]; rw [hsz'] at *; omega), List.getElem?_take_of_lt (by rw [hsz']; omega)]
                          simpa using h9
                        · rw [gA4 (by omega)] at hi
                          have hil := (gA0.1 hi).1
                          have e1 : (c.toList.take (g.ob r + off + n * it.size)).length = g.ob r + off + n * it.size := by simp only [List.length_take, Array.length_toList]; omega
                          rw [gA4 (by rw [e1, hsz']; omega), e1, gA2 (by rw [hsz']; omega)]
                          rw [← hi]
                          congr 1
                          rw [hsz']; omega)
                    refine ⟨_, _, _, hrun, E, R, ?_⟩
                    have hn := h.n
                    simp only [VR, Gh.over]
                    rw [if_pos hn.symm, if_pos hn.symm]
                    refine ⟨⟨by show σ.objs.length < g.n + 1; omega, by show (if σ.objs.length = g.n then false else g.hid σ.objs.length) = false; rw [if_pos hn.symm]⟩, cap, rfl, hroom, hmx, ?_⟩
                    simp only [World.bsize, setRow_heap w (g.ρ r) c _ ty' _ hh]
                    rw [hsize]
                    exact hbs'
                  · have hold : (Builtin.firstCells it.size n (.slice (some ⟨g.ρ r, g.ob r + off, none⟩) n cap)).run P w.drew = .ok olds.toArray w.drew :=
                      run_firstCells_some w.drew it.size n _ n cap olds (by rw [hol, hsz']) (fun j v hj => by rw [Addr.add_lit]; exact hcell j v hj)
                    have hrun := run_append_grow' (ty := ty) ht hit hzu hsrc (some ⟨g.ρ r, g.ob r + off, none⟩) n cap hold (by omega) hb2 (by rw [hby']; exact hb3)
                    obtain ⟨g', hE, hR, hV⟩ := grownO_ok (e := e) (h.bury r (by rw [hr]; intro h; cases h)) hzc olds news ((cs.drop off).take (n * e2)) ys hvo hvn n m cap hcl hyl hb2
                    rw [List.length_set] at hV
                    exact ⟨_, _, g', hrun, hE, hR, hV⟩
                · cases ha
              · cases ha
          · rename_i r off e2 n
            simp only [VR] at hs
            obtain ⟨hrn, rfl, hmx, hbs⟩ := hs
            split at ha
            · rename_i hm
              subst hm
              injection ha with ha
              injection ha with h1 h2
              subst h1 h2
              exact ⟨_, w, g, run_append_zero ht hit hsrc _ n n (Nat.le_refl _), Ext.refl _ _ _, h, by simp only [VR]; exact ⟨hrn, n, rfl, Nat.le_refl _, hmx, hbs⟩⟩
            · rename_i hm
              split at ha
              · rename_i cs hr
                split at ha
                · rename_i hb
                  obtain ⟨hb1, hb2, hb3, hb4⟩ := hb
                  subst hb1
                  injection ha with ha
                  injection ha with h1 h2
                  subst h1 h2
                  obtain ⟨olds, hvo, hol, hcell⟩ := h.part hr off (n * e2) hb4
                  have hcl : ((cs.drop off).take (n * e2)).length = n * e2 := by rw [hvo.length, hol]
                  have hold : (Builtin.firstCells it.size n (.slice (some ⟨g.ρ r, g.ob r + off, none⟩) n n)).run P w.drew = .ok olds.toArray w.drew :=
                    run_firstCells_some w.drew it.size n _ n n olds (by rw [hol, hsz']) (fun j v hj => by rw [Addr.add_lit]; exact hcell j v hj)
                  have hrun := run_append_grow' (ty := ty) ht hit hzu hsrc (some ⟨g.ρ r, g.ob r + off, none⟩) n n hold (by omega) hb2 (by rw [hby']; exact hb3)
                  obtain ⟨g', hE, hR, hV⟩ := grownO_ok (e := e) h hzc olds news ((cs.drop off).take (n * e2)) ys hvo hvn n m n hcl hyl hb2
                  exact ⟨_, _, g', hrun, hE, hR, hV⟩
                · cases ha
              · cases ha
          · cases ha
      · cases ha
    · cases ha
  · cases ha
theorem run_append_make {t t2 ty e : TypeId} {i : TypeInfo} {z : Value} {k : IntKind} (ht : P.underlying t = some (.slice e)) (hu : P.underlying t2 = some (.int k)) (hi : P.info? e = some i) (hz : i.zero = some z) (n : Nat) (h0 : 0 < n) (hs : 0 < i.size)
    (h63 : n ≤ 140737488355328) (hb : n * i.bytes ≤ 140737488355328) {k' : IntKind} :
    (Builtin.append_ #[t, t2] ty #[.slice none 0 0, .int k' n]).run P w =
      .ok (.slice (some ⟨w.heap.size, 0, none⟩) n (grownCap w n 0 e)) (w.drew.alloc (.cells (Builtin.zeroCells z.cells n ++ Builtin.zeroCells z.cells (grownCap w n 0 e - n)) e)) := by
  have hw : IntKind.i64.wrap (n : Int) = n := by
    unfold IntKind.wrap
    simp [IntKind.bits, IntKind.signed, IntKind.max, IntKind.min]
    split <;> omega
  have h48 : ¬ ((281474976710656 : Int) < (n : Int) * i.bytes) := by
    have : (n : Int) * i.bytes = ((n * i.bytes : Nat) : Int) := by rw [Int.natCast_mul]
    rw [this]; omega
  have hneg : ¬ ((n : Int) < 0) := by omega
  have hn : ¬ (n ≤ 0) := by omega
  have h63' : ¬ (9223372036854775807 < (n : Int)) := by omega
  have h48' : ¬ (281474976710656 < Builtin.nextslicecap n 0 * i.bytes) := by have := growslice_fits (need := n) (old := 0) (bytes := i.bytes) h0 hb; omega
  have hns : n * i.size ≠ 0 := Nat.pos_iff_ne_zero.1 (Nat.mul_pos h0 hs)
  have hai : ∀ w : World, (asIntOf (.int k' n)).run P w = .ok (k', (n : Int)) w := fun w => rfl
  have hmx : ¬ (9223372036854775807 < max (n : Int) 0) := by omega
  simp [Builtin.append_, run_underlying ht, run_underlying hu, asInt, hai, hmx, sizeOf, typeInfo, zeroValue, hi, hz, hw, h48, hneg, hn, h63', h48', hns, Question.forced, newRow, grownCap, Builtin.firstCells]
  intro h9
  exact absurd h9 (Nat.pos_iff_ne_zero.1 h0)
def vappendMake (P : Program) (σ : St) (t t2 : TypeId) (s x : V) : Option (V × St) :=
  match P.underlying t, P.underlying t2, s, x with
  | some (.slice e), some (.int _), .nils, .int _ n => match (P.info? e).map (·.bytes), sizeT P e, zeroT P e with
    | some by_, some sz, some z => if 0 < n ∧ 0 < sz ∧ (vcells z).length = sz ∧ n.toNat ≤ 140737488355328 ∧ n.toNat * by_ ≤ 140737488355328 then some (.hslice σ.objs.length 0 sz n.toNat, ⟨σ.objs ++ [.cells []], σ.toks⟩) else none
    | _, _, _ => none
  | _, _, _, _ => none
theorem vappendMake_ok (h : Rel base w0 g σ w) {t t2 ty : TypeId} {s x v : V} {a b : Value} {σ' : St} (hs : VR g σ.toks w s a) (hx : VR g σ.toks w x b) (ha : vappendMake P σ t t2 s x = some (v, σ')) :
    MOk P base w0 g σ w (Builtin.append_ #[t, t2] ty #[a, b]) v σ' := by
  unfold vappendMake at ha
  split at ha
  · rename_i e _ k n ht hu
    split at ha
    · rename_i by_ sz z hby hsz hz
      obtain ⟨it, uz, hit, hzu, ho⟩ := zeroT_parts hz
      have hby' : it.bytes = by_ := by rw [hit] at hby; simpa using hby
      have hsz' : it.size = sz := by unfold sizeT at hsz; rw [hit] at hsz; simpa using hsz
      split at ha
      · rename_i hc
        obtain ⟨c1, c2, c3, c4, c5⟩ := hc
        injection ha with ha
        injection ha with h1 h2
        subst h1 h2
        simp only [VR] at hs hx
        subst hs hx
        obtain ⟨m, rfl⟩ : ∃ m : Nat, n = (m : Int) := ⟨n.toNat, by omega⟩
        rw [Int.toNat_natCast] at c4 c5 ⊢
        have hzc : uz.cells.size = sz := by
          have := (vcells_ok (ofVal_ok (g := g) (s := σ.toks) (w := w) ho)).length
          rw [← c3, this]
          simp
        have hrun := run_append_make (P := P) (w := w) (ty := ty) ht hu hit hzu m (by omega) (by omega) c4 (by rw [hby']; exact c5) (k' := k)
        have hge := grownCap_ge w m 0 e
        have hN := newRowO_ok h.drew (Builtin.zeroCells uz.cells m ++ Builtin.zeroCells uz.cells (grownCap w m 0 e - m)) e [] [] (by simp [VRs]) (by simp) m (grownCap w m 0 e) sz hge (grownCap_le_maxLen w m 0 e (by unfold maxLen; omega))
          (by rw [Array.size_append, size_zeroCells, size_zeroCells, hzc, ← Nat.add_mul]; congr 1; omega)
        exact ⟨_, _, _, hrun, (Ext.drew g σ.toks w).trans hN.1, hN.2.1, hN.2.2⟩
      · cases ha
    · cases ha
  · cases ha
def vcap (P : Program) (t : TypeId) (x : V) : Option V := match P.underlying t, x with
  | some (.slice _), .nils => some (.int .i64 0)
  | some (.slice _), .slice .exact _ _ n => some (.int .i64 (n : Nat))
  | _, _ => none
theorem vcap_ok {t ty : TypeId} {ts : Array TypeId} (hts : ts[0]? = some t) {x v : V} {a : Value} (hx : VR g σ.toks w x a) (hl : vcap P t x = some v) : POk P g σ.toks w (Builtin.cap_ ts ty #[a]) v := by
  unfold vcap at hl
  split at hl
  · rename_i e hu
    injection hl with hl
    subst hl
    simp only [VR] at hx
    subst hx
    exact ⟨goInt 0, by simp [Builtin.cap_, hts, run_underlying hu], by simp only [VR, goInt]⟩
  · rename_i e _ _ n hu
    injection hl with hl
    subst hl
    simp only [VR] at hx
    obtain ⟨ad, cap, us, rfl, _, _, _, _, _, hp⟩ := hx
    simp only [PermOk] at hp
    subst hp
    exact ⟨goInt cap, by simp [Builtin.cap_, hts, run_underlying hu], by simp only [VR, goInt]⟩
  · cases hl
end
end Go.Proofs.YtnegdinonfjdfaaDoor.Q
namespace Go.Proofs.YtnegdinonfjdfaaDoor.Q
open Go Go.RowKit
section
variable {P : Program} {base : Nat} {w0 : World} {g : Gh} {σ : St} {w : World}
theorem bytesWorld_alloc (w : World) (e : TypeId) (s : ByteArray) : Lib.bytesWorld w e s = w.drew.alloc (.cells (Lib.bytesCells w e s) e ((Lib.bytesCells w e s).size, (Lib.bytesCells w e s).size + 1)) := by
  have hh : (Lib.bytesWorld w e s).heap = (w.drew.alloc (.cells (Lib.bytesCells w e s) e ((Lib.bytesCells w e s).size, (Lib.bytesCells w e s).size + 1))).heap := by
    apply Array.ext_getElem?
    intro i
    rcases Nat.lt_trichotomy i w.heap.size with h | h | h
    · rw [Lib.bytesWorld_at_old w e s i h, heap_alloc_lt w.drew _ i h]; rfl
    · subst h
      rw [Lib.bytesWorld_at_new]
      exact (heap_alloc_eq w.drew _).symm
    · rw [Array.getElem?_eq_none (by rw [Lib.bytesWorld_size]; omega), Array.getElem?_eq_none (by rw [World.size_alloc]; show w.heap.size + 1 ≤ i; omega)]
  have hrest : Lib.bytesWorld w e s = { (w.drew.alloc (.cells (Lib.bytesCells w e s) e ((Lib.bytesCells w e s).size, (Lib.bytesCells w e s).size + 1))) with heap := (Lib.bytesWorld w e s).heap } := by
    unfold Lib.bytesWorld World.freeze
    split <;> rfl
  rw [hrest, hh]
def vbytes (P : Program) (src dst : TypeId) (x : V) : Option V :=
  match P.underlying src, P.underlying dst, x with
  | some _, some (.slice e), .str l => if isU8 P e then some (.slice .ro 1 (l.map byteV) l.length) else none
  | _, _, _ => none
theorem vbytes_ok (h : Rel base w0 g σ w) {src dst : TypeId} {x v : V} {a : Value} (hx : VR g σ.toks w x a) (hb : vbytes P src dst x = some v) (hlen : ∀ l, x = .str l → l.length ≤ 140737488355328) : MOk P base w0 g σ w (convert src dst a) v σ := by
  unfold vbytes at hb
  split at hb
  · rename_i u e l hs hd
    split at hb
    · rename_i he
      injection hb with hb; subst hb
      simp only [VR] at hx; subst hx
      have hl := hlen l rfl
      have hrun := Lib.run_convert_string_bytes (P := P) w src dst e ⟨l.toArray⟩ hs hd (isU8_eq he)
      rw [bytesWorld_alloc, size_mk] at hrun
      have E := (Ext.drew g σ.toks w).trans (Ext.row h.drew (.cells (Lib.bytesCells w e ⟨l.toArray⟩) e ((Lib.bytesCells w e ⟨l.toArray⟩).size, (Lib.bytesCells w e ⟨l.toArray⟩).size + 1)) l.length)
      refine ⟨_, _, _, hrun, E, h.drew.row _ _, ?_⟩
      simp only [VR]
      have hge := grownCap_ge w l.length 0 e
      refine ⟨⟨w.heap.size, 0, none⟩, grownCap w l.length 0 e, l.map fun b => Value.int .u8 (b.toNat : Int), rfl, by simp, hge, grownCap_le_maxLen w _ _ e (by unfold maxLen; omega), fun _ => ⟨rfl, by simp [Gh.row], fun i u hi => ?_⟩, ?_, trivial⟩
      · rw [Nat.zero_add]
        have hc := heap_alloc_eq w.drew (.cells (Lib.bytesCells w e ⟨l.toArray⟩) e ((Lib.bytesCells w e ⟨l.toArray⟩).size, (Lib.bytesCells w e ⟨l.toArray⟩).size + 1))
        have hc' : (w.drew.alloc (.cells (Lib.bytesCells w e ⟨l.toArray⟩) e ((Lib.bytesCells w e ⟨l.toArray⟩).size, (Lib.bytesCells w e ⟨l.toArray⟩).size + 1))).heap[w.heap.size]? = some (.cells (Lib.bytesCells w e ⟨l.toArray⟩) e ((Lib.bytesCells w e ⟨l.toArray⟩).size, (Lib.bytesCells w e ⟨l.toArray⟩).size + 1)) := hc
        simp only [World.cell?, hc']
        have hil : i < l.length := by have := (gA0.1 hi).1; simpa using this
        simp only [Option.isSome_none, Bool.false_eq_true, if_false]
        simp only [Lib.bytesCells]
        rw [Array.getElem?_append_left (by simpa using hil)]
        simpa using hi
      · refine VRs.of_get (by simp) fun i v u hv hu => ?_
        rw [List.getElem?_map] at hv hu
        cases hbb : l[i]? with
        | none => rw [hbb] at hv; cases hv
        | some b =>
          rw [hbb] at hv hu
          simp at hv hu
          subst hv hu
          simp [VR, byteV]
    · cases hb
  · cases hb
def evAll (tmps : List V) : List Operand → Option (List V)
  | [] => some []
  | x :: xs => match evs tmps x, evAll tmps xs with
    | some v, some vs => some (v :: vs)
    | _, _ => none
def evParts (tmps : List V) : List (Nat × Operand) → Option (List (Nat × V))
  | [] => some []
  | (i, x) :: xs => match evs tmps x, evParts tmps xs with
    | some v, some vs => some ((i, v) :: vs)
    | _, _ => none
def evOpt (tmps : List V) : Option Operand → Option (Option V)
  | none => some none
  | some x => (evs tmps x).map some
theorem evAll_ok {a : Act} {tmps : List V} {toks : List Bool} (h : VRs g toks w tmps a.tmps.toList) : ∀ {xs : List Operand} {vs : List V}, evAll tmps xs = some vs → VRs g toks w vs (xs.map a.eval)
  | [], vs, hv => by simp only [evAll] at hv; injection hv with hv; subst hv; simp [VRs]
  | x :: xs, vs, hv => by
    simp only [evAll] at hv
    split at hv
    · rename_i v vs' h1 h2
      injection hv with hv; subst hv
      simp only [List.map_cons, VRs]
      exact ⟨_, _, rfl, evs_ok h h1, evAll_ok h h2⟩
    · cases hv
theorem evParts_ok {a : Act} {tmps : List V} {toks : List Bool} (h : VRs g toks w tmps a.tmps.toList) : ∀ {xs : List (Nat × Operand)} {vs : List (Nat × V)}, evParts tmps xs = some vs → PartsR g toks w vs (xs.map fun p => (p.1, a.eval p.2))
  | [], vs, hv => by simp only [evParts] at hv; injection hv with hv; subst hv; simp [PartsR]
  | (i, x) :: xs, vs, hv => by
    simp only [evParts] at hv
    split at hv
    · rename_i v vs' h1 h2
      injection hv with hv; subst hv
      simp only [List.map_cons, PartsR]
      exact ⟨_, _, rfl, evs_ok h h1, evParts_ok h h2⟩
    · cases hv
theorem evOpt_ok {a : Act} {tmps : List V} {toks : List Bool} (h : VRs g toks w tmps a.tmps.toList) {x : Option Operand} {v : Option V} (hv : evOpt tmps x = some v) : OR (VR g toks w) v (x.map a.eval) := by
  cases x with
  | none => simp only [evOpt] at hv; injection hv with hv; subst hv; exact OR.none
  | some x =>
    simp only [evOpt] at hv
    rw [gA1] at hv
    obtain ⟨y, hy, rfl⟩ := hv
    exact OR.some (evs_ok h hy)
theorem append_mark (t t2 t3 ty : TypeId) (args : Array Value) : Builtin.append_ #[t, t2, t3] ty args = Builtin.append_ #[t, t2] ty args := by simp [Builtin.append_]
def vbuiltin (P : Program) (σ : St) (b : Builtin) (ts : List TypeId) (vs : List V) : Option (V × St) :=
  match b, ts, vs with
  | .len, [t], [x] => (vlen P t x).map (·, σ)
  | .append, [t, t2], [s, x] => vappend P σ t t2 s x
  | .append, [t, t2, _], [s, x] => vappendRow P σ t t2 s x
  | .max, _, [x, y] => (vmm true x y).map (·, σ)
  | .min, _, [x, y] => (vmm false x y).map (·, σ)
  | .min, _, [x, y, z, u] => (vmm4 false x y z u).map (·, σ)
  | _, _, _ => none
def strShort : V → Bool
  | .str l => decide (l.length ≤ 140737488355328)
  | _ => true
def isMapT (P : Program) (e : TypeId) : Bool := match P.underlying e with
  | some (.map _ _) => true
  | _ => false
def vop (P : Program) (tmps : List V) (σ : St) (o : Op) : Option (V × St) :=
  match o with
  | .move x => (evs tmps x).map (·, σ)
  | .assign x => (evs tmps x).map (·, σ)
  | .pick c a b => match evs tmps c with
    | some (.bool t) => (evs tmps (if t then a else b)).map (·, σ)
    | _ => none
  | .alloc e => valloc P σ e
  | .box e x => (evs tmps x).map (if isMapT P e = true then vboxT σ e else vbox σ)
  | .build t parts => match evParts tmps parts.toList with
    | some ps => (vbuild P t ps).map (·, σ)
    | none => none
  | .buildSlice t len parts => match evParts tmps parts.toList with
    | some ps => (vbuildSlice P t len ps).map (·, σ)
    | none => none
  | .load t x => match evs tmps x with
    | some a => (vload P σ.objs t a).map (·, σ)
    | none => none
  | .store t x y => match evs tmps x, evs tmps y with
    | some a, some v => (vstore P σ t a v).map (.tuple [], ·)
    | _, _ => none
  | .nilCheck x => match evs tmps x with
    | some a => (vnil a).map (·, σ)
    | none => none
  | .binOp op t x y _ => match evs tmps x, evs tmps y with
    | some a, some b => (vbin P op t x y a b).map (·, σ)
    | _, _ => none
  | .unOp op _ x => match evs tmps x with
    | some a => (vun op a).map (·, σ)
    | none => none
  | .convert s d x => match evs tmps x with
    | some a => match vconv P s d a with
      | some v => some (v, σ)
      | none => if strShort a then (vbytes P s d a).map (·, σ) else none
    | none => none
  | .makeInterface t x => match evs tmps x with
    | some a => (vmakeIface P t a).map (·, σ)
    | none => none
  | .makeFunc (.func f) first caps => if first = #[] then (evAll tmps caps.toList).map fun vs => (.func f vs, σ) else none
  | .makeSlice t l c => match evs tmps l, evs tmps c with
    | some a, some b => vmakeSlice P σ t a b
    | _, _ => none
  | .slice t x lo hi mx => match P.underlying t with
    | some (.array _ _) => none
    | _ => match evs tmps x, evOpt tmps lo, evOpt tmps hi, evOpt tmps mx with
      | some a, some l, some h, some m => (vslice P t a l h m).map (·, σ)
      | _, _, _, _ => none
  | .fieldAddr t x f => match evs tmps x with
    | some a => (vfieldAddr P t a f).map (·, σ)
    | none => none
  | .field t x f => match evs tmps x with
    | some a => (vfield P t a f).map (·, σ)
    | none => none
  | .indexAddr t x i => match evs tmps x, evs tmps i with
    | some a, some b => (vindexAddr P t a b).map (·, σ)
    | _, _ => none
  | .index t x i => match evs tmps x, evs tmps i with
    | some a, some b => (vindex P t a b).map (·, σ)
    | _, _ => none
  | .extract x i => match evs tmps x with
    | some a => (vextract a i).map (·, σ)
    | none => none
  | .typeAssert x xt at_ ok => match evs tmps x with
    | some a => (vtypeAssert P a xt at_ ok).map (·, σ)
    | none => none
  | .call { callee := .builtin b, args, argTypes } => match evAll tmps args.toList with
    | some vs => vbuiltin P σ b argTypes.toList vs
    | none => none
  | .makeMap _ none => some (vmakeMap σ)
  | .insert t m k x => match evs tmps m, evs tmps k, evs tmps x with
    | some a, some b, some c => (vmapSet P σ t a b c).map (.tuple [], ·)
    | _, _, _ => none
  | .mapUpdate t m k x => match evs tmps m, evs tmps k, evs tmps x with
    | some a, some b, some c => (vmapSet P σ t a b c).map (.tuple [], ·)
    | _, _, _ => none
  | .lookup t x i ok => match evs tmps x, evs tmps i with
    | some a, some b => (vlookup P σ.objs t a b ok).map (·, σ)
    | _, _ => none
  | _ => none
def OOk (P : Program) (base : Nat) (w0 : World) (g : Gh) (σ : St) (w : World) (m : Sem Next) (v : V) (σ' : St) : Prop :=
  ∃ n u w' g', m.run P w = .ok n w' ∧ (n = .value u ∨ (n = .skip ∧ u = undef)) ∧ Ext g σ.toks w g' σ'.toks w' ∧ Rel base w0 g' σ' w' ∧ VR g' σ'.toks w' v u
theorem OOk.of_pure (h : Rel base w0 g σ w) {m : Sem Value} {v : V} (hp : POk P g σ.toks w m v) : OOk P base w0 g σ w (do pure (.value (← m))) v σ := by
  obtain ⟨u, hu, hr⟩ := hp
  exact ⟨.value u, u, w, g, by simp [hu], .inl rfl, Ext.refl _ _ _, h, hr⟩
theorem OOk.of_mem {m : Sem Value} {v : V} {σ' : St} (hp : MOk P base w0 g σ w m v σ') : OOk P base w0 g σ w (do pure (.value (← m))) v σ' := by
  obtain ⟨u, w', g', hu, hE, hR, hr⟩ := hp
  exact ⟨.value u, u, w', g', by simp [hu], .inl rfl, hE, hR, hr⟩
theorem vmm_ok {mx : Bool} {x y v : V} {a b : Value} (hx : VR g σ.toks w x a) (hy : VR g σ.toks w y b) (h : vmm mx x y = some v) (ts : Array TypeId) (t : TypeId) : POk P g σ.toks w (if mx then Builtin.max_ ts t #[a, b] else Builtin.min_ ts t #[a, b]) v := by
  unfold vmm at h
  split at h
  · simp only [VR] at hx hy
    subst hx hy
    injection h with h; subst h
    cases mx
    · exact ⟨_, by simp [Builtin.min_, Builtin.min2]; rfl, by simp [VR]⟩
    · exact ⟨_, by simp [Builtin.max_, Builtin.max2]; rfl, by simp [VR]⟩
  · cases h
theorem vmm4_ok {x y z q v : V} {a b c d : Value} (hx : VR g σ.toks w x a) (hy : VR g σ.toks w y b) (hz : VR g σ.toks w z c) (hq : VR g σ.toks w q d) (h : vmm4 false x y z q = some v) (ts : Array TypeId) (t : TypeId) : POk P g σ.toks w (Builtin.min_ ts t #[a, b, c, d]) v := by
  unfold vmm4 at h
  split at h
  · simp only [VR] at hx hy hz hq
    subst hx hy hz hq
    injection h with h; subst h
    exact ⟨_, by simp [Builtin.min_, Builtin.min2]; rfl, by simp [VR, mm]⟩
  · cases h
theorem vop_ok (h : Rel base w0 g σ w) {a : Act} {tmps : List V} (ht : VRs g σ.toks w tmps a.tmps.toList) {o : Oper} {v : V} {σ' : St} (hv : vop P tmps σ o.op = some (v, σ')) : OOk P base w0 g σ w (execOp a.eval o) v σ' := by
  unfold vop at hv
  unfold execOp
  split at hv
  · rename_i x ho
    rw [gA1] at hv
    obtain ⟨y, hy, e⟩ := hv
    injection e with e1 e2
    subst e1 e2
    rw [ho]
    exact ⟨_, _, w, g, by simp, .inl rfl, Ext.refl _ _ _, h, evs_ok ht hy⟩
  · rename_i x ho
    rw [gA1] at hv
    obtain ⟨y, hy, e⟩ := hv
    injection e with e1 e2
    subst e1 e2
    rw [ho]
    exact ⟨_, _, w, g, by simp, .inl rfl, Ext.refl _ _ _, h, evs_ok ht hy⟩
  · rename_i c x y ho
    split at hv
    · rename_i t hc
      rw [gA1] at hv
      obtain ⟨z, hz, e⟩ := hv
      injection e with e1 e2
      subst e1 e2
      rw [ho]
      have h1 := evs_ok ht hc
      simp only [VR] at h1
      have h2 := evs_ok ht hz
      refine ⟨.value (if t then a.eval x else a.eval y), _, w, g, by simp [h1, asBool], .inl rfl, Ext.refl _ _ _, h, ?_⟩
      cases t <;> exact h2
    · cases hv
  · rename_i e ho
    unfold valloc at hv
    split at hv
    · rw [gA1] at hv
      obtain ⟨z, hz, e1⟩ := hv
      obtain ⟨u, hu, hou⟩ := run_zeroT hz
      obtain ⟨ad, w', g', hr, hE, hR, hV⟩ := vboxT_ok (P := P) h (ofVal_ok (g := g) (s := σ.toks) (w := w) hou) e
      rw [ho]
      rw [e1] at hE hR hV
      exact ⟨_, _, w', g', by simp [Instr.alloc, hu, hr], .inl rfl, hE, hR, hV⟩
    · rw [gA1] at hv
      obtain ⟨z, hz, e1⟩ := hv
      obtain ⟨u, hu, hou⟩ := run_zeroT hz
      obtain ⟨ad, w', g', hr, hE, hR, hV⟩ := vbox_ok (P := P) h (ofVal_ok (g := g) (s := σ.toks) (w := w) hou) e
      rw [ho]
      rw [e1] at hE hR hV
      exact ⟨_, _, w', g', by simp [Instr.alloc, hu, hr], .inl rfl, hE, hR, hV⟩
  · rename_i e x ho
    rw [gA1] at hv
    obtain ⟨z, hz, e1⟩ := hv
    split at e1
    · obtain ⟨ad, w', g', hr, hE, hR, hV⟩ := vboxT_ok (P := P) h (evs_ok ht hz) e
      rw [ho]
      rw [e1] at hE hR hV
      exact ⟨_, _, w', g', by simp [Instr.box, hr], .inl rfl, hE, hR, hV⟩
    · obtain ⟨ad, w', g', hr, hE, hR, hV⟩ := vbox_ok (P := P) h (evs_ok ht hz) e
      rw [ho]
      rw [e1] at hE hR hV
      exact ⟨_, _, w', g', by simp [Instr.box, hr], .inl rfl, hE, hR, hV⟩
  · rename_i t parts ho
    split at hv
    · rename_i ps hps
      rw [gA1] at hv
      obtain ⟨z, hz, e⟩ := hv
      injection e with e1 e2
      subst e1 e2
      rw [ho]
      exact OOk.of_pure h (vbuild_ok (by simpa using evParts_ok ht hps) hz)
    · cases hv
  · rename_i t len parts ho
    split at hv
    · rename_i ps hps
      rw [gA1] at hv
      obtain ⟨z, hz, e⟩ := hv
      injection e with e1 e2
      subst e1 e2
      rw [ho]
      exact OOk.of_mem (vbuildSlice_ok h (by simpa using evParts_ok ht hps) hz)
    · cases hv
  · rename_i t x ho
    split at hv
    · rename_i y hy
      rw [gA1] at hv
      obtain ⟨z, hz, e⟩ := hv
      injection e with e1 e2
      subst e1 e2
      rw [ho]
      exact OOk.of_pure h (vload_ok h (evs_ok ht hy) hz)
    · cases hv
  · rename_i t x y ho
    split at hv
    · rename_i xa ya hx hy
      rw [gA1] at hv
      obtain ⟨z, hz, e⟩ := hv
      injection e with e1 e2
      subst e1 e2
      rw [ho]
      obtain ⟨w', hr, hE, hR⟩ := vstore_ok (P := P) h (evs_ok ht hx) (evs_ok ht hy) hz
      exact ⟨.skip, undef, w', g, by simp [hr], .inr ⟨rfl, rfl⟩, hE, hR, undef_ok⟩
    · cases hv
  · rename_i x ho
    split at hv
    · rename_i y hy
      rw [gA1] at hv
      obtain ⟨z, hz, e⟩ := hv
      injection e with e1 e2
      subst e1 e2
      rw [ho]
      have hV := evs_ok ht hy
      unfold vnil at hz
      split at hz
      · injection hz with hz; subst hz
        have hV2 := hV
        simp only [VR] at hV2
        obtain ⟨_, hV2⟩ := hV2
        exact ⟨_, _, w, g, by simp [hV2]; rfl, .inl rfl, Ext.refl _ _ _, h, by rw [hV2] at hV; exact hV⟩
      · injection hz with hz; subst hz
        have hV2 := hV
        simp only [VR] at hV2
        obtain ⟨_, _, _, hV2, _⟩ := hV2
        exact ⟨_, _, w, g, by simp [hV2]; rfl, .inl rfl, Ext.refl _ _ _, h, by rw [hV2] at hV; exact hV⟩
      · injection hz with hz; subst hz
        have hV2 := hV
        simp only [VR] at hV2
        obtain ⟨_, hV2, _⟩ := hV2
        exact ⟨_, _, w, g, by simp [hV2]; rfl, .inl rfl, Ext.refl _ _ _, h, by rw [hV2] at hV; exact hV⟩
      · injection hz with hz; subst hz
        have hV2 := hV
        simp only [VR] at hV2
        obtain ⟨_, hV2, _⟩ := hV2
        exact ⟨_, _, w, g, by simp [hV2]; rfl, .inl rfl, Ext.refl _ _ _, h, by rw [hV2] at hV; exact hV⟩
      · cases hz
    · cases hv
  · rename_i op t x y yt ho
    split at hv
    · rename_i xa ya hx hy
      rw [gA1] at hv
      obtain ⟨z, hz, e⟩ := hv
      injection e with e1 e2
      subst e1 e2
      rw [ho]
      exact OOk.of_pure h (vbin_ok (evs_ok ht hx) (evs_ok ht hy) hz)
    · cases hv
  · rename_i op t x ho
    split at hv
    · rename_i xa hx
      rw [gA1] at hv
      obtain ⟨z, hz, e⟩ := hv
      injection e with e1 e2
      subst e1 e2
      rw [ho]
      exact OOk.of_pure h (vun_ok (evs_ok ht hx) hz)
    · cases hv
  · rename_i s d x ho
    split at hv
    · rename_i xa hx
      rw [ho]
      split at hv
      · rename_i z hz
        injection hv with hv
        injection hv with e1 e2
        subst e1 e2
        exact OOk.of_pure h (vconv_ok (evs_ok ht hx) hz)
      · split at hv
        · rename_i hsh
          rw [gA1] at hv
          obtain ⟨z, hz, e⟩ := hv
          injection e with e1 e2
          subst e1 e2
          exact OOk.of_mem (vbytes_ok h (evs_ok ht hx) hz (fun l hl => by rw [hl] at hsh; simpa [strShort] using hsh))
        · cases hv
    · cases hv
  · rename_i t x ho
    split at hv
    · rename_i xa hx
      rw [gA1] at hv
      obtain ⟨z, hz, e⟩ := hv
      injection e with e1 e2
      subst e1 e2
      rw [ho]
      exact OOk.of_pure h (vmakeIface_ok (evs_ok ht hx) hz)
    · cases hv
  · rename_i f first caps ho
    split at hv
    · rename_i hf
      rw [gA1] at hv
      obtain ⟨z, hz, e⟩ := hv
      injection e with e1 e2
      subst e1 e2
      rw [ho]
      refine ⟨.value (.func (.func f) #[] (caps.map a.eval)), _, w, g, by simp [Instr.makeFunc, hf], .inl rfl, Ext.refl _ _ _, h, ?_⟩
      simp only [VR]
      exact ⟨caps.toList.map a.eval, by congr 1; apply Array.ext'; simp, evAll_ok ht hz⟩
    · cases hv
  · rename_i t l c ho
    split at hv
    · rename_i xa ya hx hy
      rw [ho]
      exact OOk.of_mem (vmakeSlice_ok h (evs_ok ht hx) (evs_ok ht hy) hv)
    · cases hv
  · rename_i t x lo hi mx ho
    split at hv
    · cases hv
    · split at hv
      · rename_i xa la ha ma hx hl hh hm
        rw [gA1] at hv
        obtain ⟨z, hz, e⟩ := hv
        injection e with e1 e2
        subst e1 e2
        rw [ho]
        exact OOk.of_pure h (vslice_ok (evs_ok ht hx) (evOpt_ok ht hl) (evOpt_ok ht hh) (evOpt_ok ht hm) hz)
      · cases hv
  · rename_i t x f ho
    split at hv
    · rename_i xa hx
      rw [gA1] at hv
      obtain ⟨z, hz, e⟩ := hv
      injection e with e1 e2
      subst e1 e2
      rw [ho]
      exact OOk.of_pure h (vfieldAddr_ok (evs_ok ht hx) hz)
    · cases hv
  · rename_i t x f ho
    split at hv
    · rename_i xa hx
      rw [gA1] at hv
      obtain ⟨z, hz, e⟩ := hv
      injection e with e1 e2
      subst e1 e2
      rw [ho]
      exact OOk.of_pure h (vfield_ok (evs_ok ht hx) hz)
    · cases hv
  · rename_i t x i ho
    split at hv
    · rename_i xa ya hx hy
      rw [gA1] at hv
      obtain ⟨z, hz, e⟩ := hv
      injection e with e1 e2
      subst e1 e2
      rw [ho]
      exact OOk.of_pure h (vindexAddr_ok (evs_ok ht hx) (evs_ok ht hy) hz)
    · cases hv
  · rename_i t x i ho
    split at hv
    · rename_i xa ya hx hy
      rw [gA1] at hv
      obtain ⟨z, hz, e⟩ := hv
      injection e with e1 e2
      subst e1 e2
      rw [ho]
      exact OOk.of_pure h (vindex_ok (evs_ok ht hx) (evs_ok ht hy) hz)
    · cases hv
  · rename_i x i ho
    split at hv
    · rename_i xa hx
      rw [gA1] at hv
      obtain ⟨z, hz, e⟩ := hv
      injection e with e1 e2
      subst e1 e2
      rw [ho]
      exact OOk.of_pure h (vextract_ok (evs_ok ht hx) hz)
    · cases hv
  · rename_i x xt at_ ok ho
    split at hv
    · rename_i xa hx
      rw [gA1] at hv
      obtain ⟨z, hz, e⟩ := hv
      injection e with e1 e2
      subst e1 e2
      rw [ho]
      exact OOk.of_pure h (vtypeAssert_ok (evs_ok ht hx) hz)
    · cases hv
  · rename_i b args argTypes ho
    split at hv
    · rename_i vs hvs
      rw [ho]
      have hA := evAll_ok ht hvs
      unfold vbuiltin at hv
      split at hv
      · rename_i t x hts
        rw [gA1] at hv
        obtain ⟨z, hz, e⟩ := hv
        injection e with e1 e2
        subst e1 e2
        simp only [VRs] at hA
        obtain ⟨u, us', hus, hxu, hnil⟩ := hA
        have hargs : args.map a.eval = #[u] := by apply Array.ext'; simp [hus, hnil]
        have hT : argTypes[0]? = some t := by rw [← Array.getElem?_toList, hts]; rfl
        obtain ⟨r, hr, hV⟩ := vlen_ok (P := P) hxu hz o.type argTypes hT #[u] rfl
        exact ⟨.value r, r, w, g, by simp [resolve, invoke, builtin, hargs, hr], .inl rfl, Ext.refl _ _ _, h, hV⟩
      · rename_i t t2 s x hts
        simp only [VRs] at hA
        obtain ⟨u, us', hus, hxu, u2, us2, hus2, hxu2, hnil⟩ := hA
        have hargs : args.map a.eval = #[u, u2] := by apply Array.ext'; simp [hus, hus2, hnil]
        have hT : argTypes = #[t, t2] := by apply Array.ext'; simpa using hts
        obtain ⟨r, w', g', hr, hE, hR, hV⟩ := vappend_ok (ty := o.type) h hxu hxu2 hv
        exact ⟨.value r, r, w', g', by simp [resolve, invoke, builtin, hargs, hT, hr], .inl rfl, hE, hR, hV⟩
      · rename_i t t2 t3 s x hts
        simp only [VRs] at hA
        obtain ⟨u, us', hus, hxu, u2, us2, hus2, hxu2, hnil⟩ := hA
        have hargs : args.map a.eval = #[u, u2] := by apply Array.ext'; simp [hus, hus2, hnil]
        have hT : argTypes = #[t, t2, t3] := by apply Array.ext'; simpa using hts
        obtain ⟨r, w', g', hr, hE, hR, hV⟩ := vappendRow_ok (ty := o.type) h hxu hxu2 hv
        exact ⟨.value r, r, w', g', by simp [resolve, invoke, builtin, hargs, hT, append_mark, hr], .inl rfl, hE, hR, hV⟩
      · rename_i x y
        rw [gA1] at hv
        obtain ⟨z, hz, e⟩ := hv
        injection e with e1 e2
        subst e1 e2
        simp only [VRs] at hA
        obtain ⟨u, us', hus, hxu, u2, us2, hus2, hxu2, hnil⟩ := hA
        have hargs : args.map a.eval = #[u, u2] := by apply Array.ext'; simp [hus, hus2, hnil]
        obtain ⟨r, hr, hV⟩ := vmm_ok (P := P) hxu hxu2 hz argTypes o.type
        simp only [if_true] at hr
        exact ⟨.value r, r, w, g, by simp [resolve, invoke, builtin, hargs, hr], .inl rfl, Ext.refl _ _ _, h, hV⟩
      · rename_i x y
        rw [gA1] at hv
        obtain ⟨z, hz, e⟩ := hv
        injection e with e1 e2
        subst e1 e2
        simp only [VRs] at hA
        obtain ⟨u, us', hus, hxu, u2, us2, hus2, hxu2, hnil⟩ := hA
        have hargs : args.map a.eval = #[u, u2] := by apply Array.ext'; simp [hus, hus2, hnil]
        obtain ⟨r, hr, hV⟩ := vmm_ok (P := P) hxu hxu2 hz argTypes o.type
        simp only [Bool.false_eq_true, if_false] at hr
        exact ⟨.value r, r, w, g, by simp [resolve, invoke, builtin, hargs, hr], .inl rfl, Ext.refl _ _ _, h, hV⟩
      · rename_i x y z q
        rw [gA1] at hv
        obtain ⟨z', hz, e⟩ := hv
        injection e with e1 e2
        subst e1 e2
        simp only [VRs] at hA
        obtain ⟨u, us', hus, hxu, u2, us2, hus2, hxu2, u3, us3, hus3, hxu3, u4, us4, hus4, hxu4, hnil⟩ := hA
        have hargs : args.map a.eval = #[u, u2, u3, u4] := by apply Array.ext'; simp [hus, hus2, hus3, hus4, hnil]
        obtain ⟨r, hr, hV⟩ := vmm4_ok (P := P) hxu hxu2 hxu3 hxu4 hz argTypes o.type
        exact ⟨.value r, r, w, g, by simp [resolve, invoke, builtin, hargs, hr], .inl rfl, Ext.refl _ _ _, h, hV⟩
      · cases hv
    · cases hv
  · rename_i t ho
    injection hv with hv
    rw [ho]
    obtain ⟨u, w', g', hr, hE, hR, hV⟩ := vmakeMap_ok (P := P) h t
    have e1 : v = (vmakeMap σ).1 := by rw [hv]
    have e2 : σ' = (vmakeMap σ).2 := by rw [hv]
    subst e1 e2
    exact ⟨.value u, u, w', g', by simp [hr], .inl rfl, hE, hR, hV⟩
  · rename_i t m k x ho
    split at hv
    · rename_i xa ya za hx hy hz0
      rw [gA1] at hv
      obtain ⟨z, hz, e⟩ := hv
      injection e with e1 e2
      subst e1 e2
      rw [ho]
      obtain ⟨w', hr, hE, hR⟩ := vmapSet_ok (P := P) h (evs_ok ht hx) (evs_ok ht hy) (evs_ok ht hz0) hz
      exact ⟨.skip, undef, w', g, by simp [hr], .inr ⟨rfl, rfl⟩, hE, hR, undef_ok⟩
    · cases hv
  · rename_i t m k x ho
    split at hv
    · rename_i xa ya za hx hy hz0
      rw [gA1] at hv
      obtain ⟨z, hz, e⟩ := hv
      injection e with e1 e2
      subst e1 e2
      rw [ho]
      obtain ⟨w', hr, hE, hR⟩ := vmapSet_ok (P := P) h (evs_ok ht hx) (evs_ok ht hy) (evs_ok ht hz0) hz
      exact ⟨.skip, undef, w', g, by simp [hr], .inr ⟨rfl, rfl⟩, hE, hR, undef_ok⟩
    · cases hv
  · rename_i t x i ok ho
    split at hv
    · rename_i xa ya hx hy
      rw [gA1] at hv
      obtain ⟨z, hz, e⟩ := hv
      injection e with e1 e2
      subst e1 e2
      rw [ho]
      exact OOk.of_pure h (vlookup_ok h (evs_ok ht hx) (evs_ok ht hy) hz)
    · cases hv
  · cases hv
end
end Go.Proofs.YtnegdinonfjdfaaDoor.Q
namespace Go.Proofs.YtnegdinonfjdfaaDoor.Q
open Go Go.RowKit
section
variable {P : Program} {base : Nat} {w0 : World} {g : Gh} {σ : St} {w : World}
theorem Rel.frost {w' : World} (h : Rel base w0 g σ w) {b : Nat} (hb : base ≤ b) (hal : ∀ r, aliveAt σ.objs r → g.ρ r ≠ b) (htk : ∀ t, tokLive σ.toks t = true → g.tk t ≠ b) (hL : g.L b = 0) {c : Array Value} {ty : TypeId} {fr fr' : Nat × Nat}
    (h1 : w.heap[b]? = some (.cells c ty fr)) (h2 : w'.heap[b]? = some (.cells c ty fr')) (ho : ∀ k, k ≠ b → w'.heap[k]? = w.heap[k]?) (hsz : w'.heap.size = w.heap.size) (hos : w'.os = w.os) (htp : w'.tape = w.tape) (hout : w'.output = w.output) (k : Nat) :
    Ext g σ.toks w (g.row b k) σ.toks w' ∧ Rel base w0 (g.row b k) σ w' := by
  have hbl := (Array.getElem?_eq_some_iff.1 h1).1
  have E : Ext g σ.toks w (g.row b k) σ.toks w' := {
    n := Nat.le_refl _
    has := fun _ h => h
    ρ := fun _ _ => rfl
    ob := fun _ _ => rfl
    L := fun b' => by
      simp only [Gh.row]
      split
      · rename_i e; rw [e, hL]; exact Nat.zero_le _
      · exact Nat.le_refl _
    cells := fun b' q hlo => by
      by_cases eb : b' = b
      · subst eb; rw [hL] at hlo; omega
      · exact cell?_heap (ho b' eb) q
    shape := fun b' c2 ty2 fr2 hbb => by
      by_cases eb : b' = b
      · subst eb
        rw [h1] at hbb
        injection hbb with hbb
        injection hbb with e1 e2 e3
        subst e1 e2 e3
        exact ⟨c, fr', h2, rfl, .inr fun t _ hl => htk t hl⟩
      · exact ⟨c2, fr2, (ho b' eb).trans hbb, rfl, .inl rfl⟩
    dfr := fun b' x hbb => by
      by_cases eb : b' = b
      · subst eb; rw [h1] at hbb; cases hbb
      · exact (ho b' eb).trans hbb
    nt := Nat.le_refl _
    tok := fun t _ hl => ⟨hl, rfl, by simp only [Gh.row]; rw [if_neg (htk t hl)]⟩ }
  refine ⟨E, {
    below := h.below.trans ⟨hos, htp, hout, by have := h.bs; omega, fun i hi => ho i (by omega)⟩
    bs := by rw [hsz]; exact h.bs
    n := h.n
    hid := h.hid
    obj := fun r ob hob => ?_
    inj := h.inj
    tok := fun t ht => by
      obtain ⟨t1, t2, t3⟩ := h.tok t ht
      exact ⟨t1, by rw [hsz]; exact t2, t3⟩
    tinj := h.tinj
    lim := fun b' hb' => by
      rw [hsz] at hb'
      simp only [Gh.row]
      rw [if_neg (by omega)]
      exact h.lim b' hb' }⟩
  by_cases hg : ob.gone
  · exact ObjOk.gone hg
  · have hne := hal r ⟨ob, hob, hg⟩
    exact (h.obj r ob hob).ext E (h.hasO hob) (ho _ hne) (by simp only [Gh.row]; rw [if_neg hne])
def vfreeze (P : Program) (σ : St) (src dst : TypeId) (x : V) : Option (V × St) := match P.underlying src, x with
  | some (.slice e), .hslice r off 1 n => if src = dst ∧ isU8 P e = true then match σ.objs[r]? with
      | some (.cells cs) => if off + n ≤ cs.length then some (.slice .ro 1 ((cs.drop off).take n) n, ⟨σ.objs.set r .dead, σ.toks⟩) else none
      | _ => none
    else none
  | _, _ => none
theorem VRs.part {g : Gh} {s : List Bool} {w : World} : ∀ {vs : List V} {us : List Value}, VRs g s w vs us → ∀ (i n : Nat), VRs g s w ((vs.drop i).take n) ((us.drop i).take n)
  | [], us, h, i, n => by simp only [VRs] at h; subst h; simp [VRs]
  | v :: vs, us, h, i, n => by
    obtain ⟨u, us', rfl, h1, h2⟩ := (by simpa only [VRs] using h : ∃ u us', us = u :: us' ∧ VR g s w v u ∧ VRs g s w vs us')
    cases i with
    | zero => cases n with
      | zero => simp [VRs]
      | succ n =>
        have := VRs.part h2 0 n
        simp only [List.drop_zero] at this
        simp only [List.drop_zero, List.take_succ_cons, VRs]
        exact ⟨u, _, rfl, h1, this⟩
    | succ i => simpa using VRs.part h2 i n
theorem vfreeze_ok (h : Rel base w0 g σ w) {src dst : TypeId} {x v : V} {a : Value} {σ' : St} (hx : VR g σ.toks w x a) (hv : vfreeze P σ src dst x = some (v, σ')) : MOk P base w0 g σ w (convert src dst a) v σ' := by
  unfold vfreeze at hv
  split at hv
  · rename_i e r off n hs
    split at hv
    · rename_i hc
      obtain ⟨rfl, hu8⟩ := hc
      split at hv
      · rename_i cs hr
        split at hv
        · rename_i hle
          injection hv with hv
          injection hv with e1 e2
          subst e1 e2
          obtain ⟨hb, hL, c, ty, us, hh, hvs, hfit, hcell⟩ := h.obj r _ hr
          simp only [VR] at hx
          obtain ⟨hhas, cap, rfl, hl1, hl2, _⟩ := hx
          have halr : aliveAt σ.objs r := ⟨_, hr, fun h => by cases h⟩
          have hlen := hvs.length
          have h1 := h.bury r (by rw [hr]; intro h; cases h)
          have hus : ∀ k, ∃ w' fr', w' = w.freeze ⟨g.ρ r, k, none⟩ 1 ∧ w'.heap[g.ρ r]? = some (.cells c ty fr') ∧ (∀ j, j ≠ g.ρ r → w'.heap[j]? = w.heap[j]?) ∧ w'.heap.size = w.heap.size ∧ w'.os = w.os ∧ w'.tape = w.tape ∧ w'.output = w.output := by
            intro k
            refine ⟨_, (k, k + 1), rfl, ?_, fun j hj => ?_, ?_, rfl, rfl, rfl⟩
            · unfold World.freeze
              rw [if_neg (by decide)]
              simp [Array.getElem?_modify, hh]
            · unfold World.freeze
              rw [if_neg (by decide)]
              simp [Array.getElem?_modify, Ne.symm hj]
            · unfold World.freeze
              rw [if_neg (by decide)]
              simp
          obtain ⟨w', fr', hw', k1, k2, k3, k4, k5, k6⟩ := hus c.size
          obtain ⟨E, R⟩ := h1.frost (b := g.ρ r) hb (fun r' hr' e => (alive_kill hr').2 (h.inj r' r (alive_kill hr').1 halr e)) (fun t ht e => (h.tok t ht).2.2 r halr e.symm) hL hh k1 k2 k3 k4 k5 k6 (g.ob r + cs.length)
          refine ⟨.slice (some ⟨g.ρ r, g.ob r + off, none⟩) n cap, w', g.row (g.ρ r) (g.ob r + cs.length), ?_, E, R, ?_⟩
          · have hsh : w.shape? (g.ρ r) = some (ty, c.size) := by unfold World.shape?; rw [hh]
            have he := isU8_eq hu8
            simp [convert, run_underlying hs, run_underlying he, markStringish, hsh, hw']
          · simp only [VR]
            refine ⟨_, cap, (us.drop off).take n, rfl, by rw [List.length_take, List.length_drop]; omega, hl1, hl2, fun hne => ⟨rfl, ?_, fun i u hi => ?_⟩, (VRs.ext E _ hvs).part off n, trivial⟩
            · simp only [Gh.row, if_true]
              rw [List.length_take, List.length_drop]
              omega
            · have hin : i < n := by have := (gA0.1 hi).1; rw [List.length_take] at this; omega
              rw [List.getElem?_take_of_lt hin, List.getElem?_drop] at hi
              have := hcell _ _ hi
              simp only [World.cell?, k1]
              simpa [Nat.add_assoc] using this
        · cases hv
      · cases hv
    · cases hv
  · cases hv
def vice (σ : St) (x : V) : Option (V × St) := match x with
  | .hslice r off 1 n => match σ.objs[r]? with
      | some (.cells cs) => if off + n ≤ cs.length then some (.slice .ro 1 ((cs.drop off).take n) n, ⟨σ.objs.set r .dead, σ.toks⟩) else none
      | _ => none
  | _ => none
theorem vice_ok (h : Rel base w0 g σ w) {x v : V} {a : Value} {σ' : St} (hx : VR g σ.toks w x a) (hv : vice σ x = some (v, σ')) : MOk P base w0 g σ w (pure a) v σ' := by
  unfold vice at hv
  split at hv
  · rename_i r off n
    split at hv
    · rename_i cs hr
      split at hv
      · rename_i hle
        injection hv with hv
        injection hv with e1 e2
        subst e1 e2
        obtain ⟨hb, hL, c, ty, us, hh, hvs, hfit, hcell⟩ := h.obj r _ hr
        simp only [VR] at hx
        obtain ⟨hhas, cap, rfl, hl1, hl2, _⟩ := hx
        have halr : aliveAt σ.objs r := ⟨_, hr, fun h => by cases h⟩
        have hlen := hvs.length
        have h1 := h.bury r (by rw [hr]; intro h; cases h)
        obtain ⟨E, R⟩ := h1.frost (w' := w) (b := g.ρ r) hb (fun r' hr' e => (alive_kill hr').2 (h.inj r' r (alive_kill hr').1 halr e)) (fun t ht e => (h.tok t ht).2.2 r halr e.symm) hL hh hh (fun _ _ => rfl) rfl rfl rfl rfl (g.ob r + cs.length)
        refine ⟨.slice (some ⟨g.ρ r, g.ob r + off, none⟩) n cap, w, g.row (g.ρ r) (g.ob r + cs.length), rfl, E, R, ?_⟩
        simp only [VR]
        refine ⟨_, cap, (us.drop off).take n, rfl, by rw [List.length_take, List.length_drop]; omega, hl1, hl2, fun hne => ⟨rfl, ?_, fun i u hi => ?_⟩, (VRs.ext E _ hvs).part off n, trivial⟩
        · simp only [Gh.row, if_true]
          rw [List.length_take, List.length_drop]
          omega
        · have hin : i < n := by have := (gA0.1 hi).1; rw [List.length_take] at this; omega
          rw [List.getElem?_take_of_lt hin, List.getElem?_drop] at hi
          have := hcell _ _ hi
          simp only [World.cell?, hh]
          simpa [Nat.add_assoc] using this
      · cases hv
    · cases hv
  · cases hv
def vstrO (P : Program) (objs : List Ob) (src dst : TypeId) (x : V) : Option V := match P.underlying src, P.underlying dst, x with
  | some (.slice e), some .string, .hslice r off 1 n => if isU8 P e = true then match objs[r]? with
      | some (.cells cs) => if off + n ≤ cs.length then (bytesOf' ((cs.drop off).take n)).map .str else none
      | _ => none
    else none
  | _, _, _ => none
theorem vstrO_ok (h : Rel base w0 g σ w) {src dst : TypeId} {x v : V} {a : Value} (hx : VR g σ.toks w x a) (hv : vstrO P σ.objs src dst x = some v) : POk P g σ.toks w (convert src dst a) v := by
  unfold vstrO at hv
  split at hv
  · rename_i e r off n hs hd
    split at hv
    · rename_i hu8
      split at hv
      · rename_i cs hr
        split at hv
        · rename_i hle
          rw [gA1] at hv
          obtain ⟨l, h3, rfl⟩ := hv
          obtain ⟨hb, hL, c, ty, us, hh, hvs, hfit, hcell⟩ := h.obj r _ hr
          simp only [VR] at hx
          obtain ⟨hhas, cap, rfl, hl1, hl2, _⟩ := hx
          have hlen := hvs.length
          obtain ⟨xs, hxs, rfl⟩ := bytesOf'_ok (hvs.part off n) h3
          have hxl : xs.length = n := by
            have := congrArg List.length hxs
            rw [List.length_take, List.length_drop, List.length_map] at this
            omega
          refine ⟨.string (strOfNums xs), run_convert_bytes_arg w src e hs (isU8_eq hu8) (g.ρ r) (g.ob r + off) n cap xs hxl (fun i hi => ?_) dst hd, by simp [VR, strOfNums]⟩
          have h5 : ((us.drop off).take n)[i]? = some (.int .u8 (xs.getD i 0)) := by
            rw [hxs]
            simp [List.getElem?_map, List.getElem?_eq_getElem (show i < xs.length by omega), gA6]
          rw [List.getElem?_take_of_lt (by omega), List.getElem?_drop] at h5
          have := hcell _ _ h5
          simp only [World.cell?, hh]
          simpa [Nat.add_assoc] using this
        · cases hv
      · cases hv
    · cases hv
  · cases hv
def vhot (P : Program) (tmps : List V) (σ : St) (o : Op) : Option (V × St) := match o with
  | .makeSlice t l c => match evs tmps l, evs tmps c with
    | some a, some b => vmakeRow P σ t a b
    | _, _ => none
  | .buildSlice t len parts => match evParts tmps parts.toList with
    | some ps => vbuildRow P σ t len ps
    | none => none
  | .call { callee := .builtin .append, args, argTypes } => match evAll tmps args.toList, argTypes.toList with
    | some [s, x], [t, t2] => match vappendRow P σ t t2 s x with
      | some r => some r
      | none => vappendMake P σ t t2 s x
    | _, _ => none
  | .call { callee := .builtin .len, args, argTypes } => match evAll tmps args.toList, argTypes.toList with
    | some [x], [t] => match vlen P t x with
      | some v => some (v, σ)
      | none => (vmapLen P σ.objs t x).map (·, σ)
    | _, _ => none
  | .call { callee := .builtin .delete, args, argTypes } => match evAll tmps args.toList, argTypes.toList with
    | some [m, k], [t, _] => (vmapDel P σ t m k).map (.tuple [], ·)
    | _, _ => none
  | .call { callee := .builtin .cap, args, argTypes } => match evAll tmps args.toList, argTypes.toList with
    | some [x], [t] => (vcap P t x).map (·, σ)
    | _, _ => none
  | .convert s d x => match evs tmps x with
    | some a => match vconv P s d a with
      | some v => some (v, σ)
      | none => match vfreeze P σ s d a with
        | some r => some r
        | none => (vstrO P σ.objs s d a).map (·, σ)
    | none => none
  | .assign x => match evs tmps x with
    | some a => match vice σ a with
      | some r => some r
      | none => some (a, σ)
    | none => none
  | _ => none
def rowOp : Op → Bool
  | .makeSlice _ _ _ => true
  | .buildSlice _ _ _ => true
  | .call { callee := .builtin .append, .. } => true
  | .call { callee := .builtin .len, .. } => true
  | .call { callee := .builtin .delete, .. } => true
  | .call { callee := .builtin .cap, .. } => true
  | .convert _ _ _ => true
  | _ => false
def asgOp : Op → Bool
  | .assign _ => true
  | _ => false
def hotAt (ps : List String) : Oper → Bool := fun o => (rowOp o.op && ps.contains o.pos) || (asgOp o.op && ps.contains ("!" ++ o.pos))
theorem vhot_ok (h : Rel base w0 g σ w) {a : Act} {tmps : List V} (ht : VRs g σ.toks w tmps a.tmps.toList) {o : Oper} {v : V} {σ' : St} (hv : vhot P tmps σ o.op = some (v, σ')) : OOk P base w0 g σ w (execOp a.eval o) v σ' := by
  unfold vhot at hv
  split at hv
  · rename_i t l c ho
    split at hv
    · rename_i x y hx hy
      have := OOk.of_mem (vmakeRow_ok h (evs_ok ht hx) (evs_ok ht hy) hv)
      simpa only [execOp, ho] using this
    · cases hv
  · rename_i t len parts ho
    split at hv
    · rename_i ps hps
      have hP := evParts_ok ht hps
      have := OOk.of_mem (vbuildRow_ok (parts' := parts.map fun p => (p.1, a.eval p.2)) h (by simpa using hP) hv)
      simpa only [execOp, ho] using this
    · cases hv
  · rename_i args argTypes ho
    split at hv
    · rename_i s x t t2 hvs hts
      have hA := evAll_ok ht hvs
      simp only [VRs] at hA
      obtain ⟨u, us', hus, hxu, u2, us2, hus2, hxu2, hnil⟩ := hA
      have hargs : args.map a.eval = #[u, u2] := by apply Array.ext'; simp [hus, hus2, hnil]
      have hT : argTypes = #[t, t2] := by apply Array.ext'; simpa using hts
      split at hv
      · rename_i r0 hv0
        injection hv with hv
        subst hv
        obtain ⟨r, w', g', hr, hE, hR, hV⟩ := vappendRow_ok (ty := o.type) h hxu hxu2 hv0
        exact ⟨.value r, r, w', g', by simp [execOp, ho, resolve, invoke, builtin, hargs, hT, hr], .inl rfl, hE, hR, hV⟩
      · obtain ⟨r, w', g', hr, hE, hR, hV⟩ := vappendMake_ok (ty := o.type) h hxu hxu2 hv
        exact ⟨.value r, r, w', g', by simp [execOp, ho, resolve, invoke, builtin, hargs, hT, hr], .inl rfl, hE, hR, hV⟩
    · cases hv
  · rename_i args argTypes ho
    split at hv
    · rename_i x t hvs hts
      have hA := evAll_ok ht hvs
      simp only [VRs] at hA
      obtain ⟨u, us', hus, hxu, hnil⟩ := hA
      have hargs : args.map a.eval = #[u] := by apply Array.ext'; simp [hus, hnil]
      have hT : argTypes[0]? = some t := by rw [← Array.getElem?_toList, hts]; rfl
      split at hv
      · rename_i v2 hz
        injection hv with hv
        injection hv with e1 e2
        subst e1 e2
        obtain ⟨r, hr, hV⟩ := vlen_ok (P := P) hxu hz o.type argTypes hT #[u] rfl
        exact ⟨.value r, r, w, g, by simp [execOp, ho, resolve, invoke, builtin, hargs, hr], .inl rfl, Ext.refl _ _ _, h, hV⟩
      · rw [gA1] at hv
        obtain ⟨z, hz, e⟩ := hv
        injection e with e1 e2
        subst e1 e2
        obtain ⟨r, hr, hV⟩ := vmapLen_ok (ty := o.type) h hT hxu hz
        exact ⟨.value r, r, w, g, by simp [execOp, ho, resolve, invoke, builtin, hargs, hr], .inl rfl, Ext.refl _ _ _, h, hV⟩
    · cases hv
  · rename_i args argTypes ho
    split at hv
    · rename_i m k t t2 hvs hts
      have hA := evAll_ok ht hvs
      simp only [VRs] at hA
      obtain ⟨u, us', hus, hxu, u2, us2, hus2, hxu2, hnil⟩ := hA
      have hargs : args.map a.eval = #[u, u2] := by apply Array.ext'; simp [hus, hus2, hnil]
      have hT : argTypes[0]? = some t := by rw [← Array.getElem?_toList, hts]; rfl
      rw [gA1] at hv
      obtain ⟨z, hz, e⟩ := hv
      injection e with e1 e2
      subst e1 e2
      obtain ⟨w', hr, hE, hR⟩ := vmapDel_ok (ty := o.type) h hT hxu hxu2 hz
      exact ⟨.value (.tuple #[]), .tuple #[], w', g, by simp [execOp, ho, resolve, invoke, builtin, hargs, hr], .inl rfl, hE, hR, by simp [VR, VRs]⟩
    · cases hv
  · rename_i args argTypes ho
    split at hv
    · rename_i x t hvs hts
      have hA := evAll_ok ht hvs
      simp only [VRs] at hA
      obtain ⟨u, us', hus, hxu, hnil⟩ := hA
      have hargs : args.map a.eval = #[u] := by apply Array.ext'; simp [hus, hnil]
      have hT : argTypes[0]? = some t := by rw [← Array.getElem?_toList, hts]; rfl
      rw [gA1] at hv
      obtain ⟨z, hz, e⟩ := hv
      injection e with e1 e2
      subst e1 e2
      obtain ⟨r, hr, hV⟩ := vcap_ok (P := P) (ty := o.type) hT hxu hz
      exact ⟨.value r, r, w, g, by simp [execOp, ho, resolve, invoke, builtin, hargs, hr], .inl rfl, Ext.refl _ _ _, h, hV⟩
    · cases hv
  · rename_i s d x ho
    split at hv
    · rename_i a0 ha0
      split at hv
      · rename_i v0 hv0
        injection hv with hv
        injection hv with e1 e2
        subst e1 e2
        obtain ⟨u, hr, hV⟩ := vconv_ok (P := P) (w := w) (evs_ok ht ha0) hv0
        exact ⟨.value u, u, w, g, by simp [execOp, ho, hr], .inl rfl, Ext.refl _ _ _, h, hV⟩
      · split at hv
        · rename_i r0 hv0
          injection hv with hv
          subst hv
          have := OOk.of_mem (vfreeze_ok h (evs_ok ht ha0) hv0)
          simpa only [execOp, ho] using this
        · rw [gA1] at hv
          obtain ⟨z, hz, e⟩ := hv
          injection e with e1 e2
          subst e1 e2
          obtain ⟨u, hr, hV⟩ := vstrO_ok (P := P) h (evs_ok ht ha0) hz
          exact ⟨.value u, u, w, g, by simp [execOp, ho, hr], .inl rfl, Ext.refl _ _ _, h, hV⟩
    · cases hv
  · rename_i x ho
    split at hv
    · rename_i a0 ha0
      split at hv
      · rename_i r0 hv0
        injection hv with hv
        subst hv
        have := OOk.of_mem (vice_ok (P := P) h (evs_ok ht ha0) hv0)
        simpa only [execOp, ho, pure_bind] using this
      · injection hv with hv
        injection hv with e1 e2
        subst e1 e2
        exact ⟨.value _, _, w, g, by simp [execOp, ho], .inl rfl, Ext.refl _ _ _, h, evs_ok ht ha0⟩
    · cases hv
  · cases hv
end
end Go.Proofs.YtnegdinonfjdfaaDoor.Q
namespace Go.Proofs.YtnegdinonfjdfaaDoor.Q
open Go Go.RowKit
def Gh.hide (g : Gh) : Gh := { g with n := g.n + 1, hid := fun r => if r = g.n then true else g.hid r }
theorem Ext.hide (g : Gh) (s : List Bool) (w : World) : Ext g s w g.hide s w where
  n := Nat.le_succ _
  has r h := ⟨Nat.lt_succ_of_lt h.1, by simp only [Gh.hide]; rw [if_neg (by have := h.1; omega)]; exact h.2⟩
  ρ _ _ := rfl
  ob _ _ := rfl
  L _ := Nat.le_refl _
  cells _ _ _ := rfl
  shape _ c _ fr h := ⟨c, fr, h, rfl, .inl rfl⟩
  dfr _ _ h := h
  nt := Nat.le_refl _
  tok _ _ h := ⟨h, rfl, rfl⟩
section
variable {P : Program} {base : Nat} {w0 : World} {g : Gh} {σ : St} {w : World}
theorem alive_hide {objs : List Ob} {r : Nat} (h : aliveAt (objs ++ [Ob.unb]) r) : aliveAt objs r := by
  rcases alive_append h with h1 | h1
  · exact h1
  · obtain ⟨o, ho, hd⟩ := h
    rw [h1] at ho
    simp at ho
    subst ho
    exact (hd trivial).elim
theorem Rel.hide (h : Rel base w0 g σ w) : Rel base w0 g.hide ⟨σ.objs ++ [.unb], σ.toks⟩ w where
  below := h.below
  bs := h.bs
  n := by simp [Gh.hide, h.n]
  hid r := by
    simp only [Gh.hide]
    by_cases e : r = g.n
    · rw [if_pos e, e, h.n]; simp
    · rw [if_neg e, h.hid r]
      rcases Nat.lt_or_ge r σ.objs.length with h1 | h1
      · rw [gA2 h1]
      · rw [List.getElem?_eq_none h1, List.getElem?_eq_none (by simp; have := h.n; omega)]
  obj r o ho := by
    rcases Nat.lt_or_ge r σ.objs.length with h1 | h1
    · rw [gA2 h1] at ho
      exact (h.obj r o ho).ext (Ext.hide g σ.toks w) (h.hasO ho) rfl rfl
    · have : o = .unb := by
        have h2 := (gA0.1 ho).1
        simp only [List.length_append, List.length_singleton] at h2
        have : r = σ.objs.length := by omega
        subst this
        simp at ho
        exact ho.symm
      subst this
      trivial
  inj r r' hr hr' := h.inj r r' (alive_hide hr) (alive_hide hr')
  tok t ht := by
    obtain ⟨h1, h2, h3⟩ := h.tok t ht
    exact ⟨h1, h2, fun r hr => h3 r (alive_hide hr)⟩
  tinj := h.tinj
  lim := h.lim
def Gh.born (g : Gh) (r B : Nat) : Gh := { g with hid := fun k => if k = r then false else g.hid k, ρ := fun k => if k = r then B else g.ρ k, ob := fun k => if k = r then 0 else g.ob k }
theorem Ext.born (h : Rel base w0 g σ w) {r : Nat} (hr : g.hid r = true) (x : Obj) : Ext g σ.toks w (g.born r w.heap.size) σ.toks (w.alloc x) where
  n := Nat.le_refl _
  has k hk := ⟨hk.1, by simp only [Gh.born]; split; rfl; exact hk.2⟩
  ρ k hk := by
    have : k ≠ r := fun e => by subst e; rw [hk.2] at hr; cases hr
    simp only [Gh.born]; rw [if_neg this]
  ob k hk := by
    have : k ≠ r := fun e => by subst e; rw [hk.2] at hr; cases hr
    simp only [Gh.born]; rw [if_neg this]
  L _ := Nat.le_refl _
  cells b o' ho := by
    have hb : b < w.heap.size := by
      rcases Nat.lt_or_ge b w.heap.size with h1 | h1
      · exact h1
      · rw [h.lim b h1] at ho; omega
    exact World.cell?_alloc_lt (a := ⟨b, o', none⟩) _ _ hb
  shape b c t fr hb := ⟨c, fr, by rw [heap_alloc_lt _ _ _ (Array.getElem?_eq_some_iff.1 hb).1]; exact hb, rfl, .inl rfl⟩
  dfr b x hb := by rw [heap_alloc_lt _ _ _ (Array.getElem?_eq_some_iff.1 hb).1]; exact hb
  nt := Nat.le_refl _
  tok t ht hl := ⟨hl, rfl, rfl⟩
theorem alive_set2 {objs : List Ob} {r a : Nat} {o : Ob} (h : aliveAt (objs.set r o) a) : a = r ∨ (a ≠ r ∧ aliveAt objs a) := by
  by_cases e : a = r
  · exact .inl e
  · obtain ⟨p, hp, hd⟩ := h
    rw [gA3 (fun h => e h.symm)] at hp
    exact .inr ⟨e, p, hp, hd⟩
theorem Rel.bornA (h : Rel base w0 g σ w) {r : Nat} (hr : g.hid r = true) (x : Obj) (o : Ob) (hok : ObjOk base (g.born r w.heap.size) σ.toks (w.alloc x) r o) (hnu : ¬ o = .unb := by intro h; cases h) :
    Rel base w0 (g.born r w.heap.size) ⟨σ.objs.set r o, σ.toks⟩ (w.alloc x) where
  below := h.below.alloc h.bs _
  bs := by rw [World.size_alloc]; have := h.bs; omega
  n := by simpa [Gh.born] using h.n
  hid k := by
    simp only [Gh.born]
    by_cases e : k = r
    · subst e
      rw [if_pos rfl, gA5 (gA0.1 ((h.hid k).1 hr)).1]
      constructor
      · intro h; cases h
      · intro h; injection h with h; exact absurd h hnu
    · rw [if_neg e, gA3 (fun h => e h.symm)]
      exact h.hid k
  obj k ob hk := by
    have hrl := (gA0.1 ((h.hid r).1 hr)).1
    by_cases e : k = r
    · subst e
      rw [gA5 hrl] at hk
      injection hk with hk
      subst hk
      exact hok
    · rw [gA3 (fun h => e h.symm)] at hk
      by_cases hd : ob.gone
      · exact ObjOk.gone hd
      · have hlt := (h.obj k ob hk).lt hd
        exact (h.obj k ob hk).ext (Ext.born h hr x) (h.hasO hk) (heap_alloc_lt _ _ _ hlt) rfl
  inj a b ha hb he := by
    simp only [Gh.born] at he
    rcases alive_set2 ha with h1 | ⟨h1, h2⟩ <;> rcases alive_set2 hb with h3 | ⟨h3, h4⟩
    · omega
    · rw [if_pos h1, if_neg h3] at he
      have := h.alive_block h4
      omega
    · rw [if_neg h1, if_pos h3] at he
      have := h.alive_block h2
      omega
    · rw [if_neg h1, if_neg h3] at he
      exact h.inj a b h2 h4 he
  tok t hl := by
    obtain ⟨h1, h2, h3⟩ := h.tok t hl
    refine ⟨h1, by rw [World.size_alloc]; exact Nat.lt_succ_of_lt h2, fun k hk => ?_⟩
    simp only [Gh.born]
    rcases alive_set2 hk with h4 | ⟨h4, h5⟩
    · rw [if_pos h4]; omega
    · rw [if_neg h4]; exact h3 k h5
  tinj := h.tinj
  lim b hb := h.lim b (by rw [World.size_alloc] at hb; omega)
theorem valloc_any {t : TypeId} {v : V} {σ' : St} (h : valloc P σ t = some (v, σ')) : ∃ z o, zeroT P t = some z ∧ v = .optr σ.objs.length 0 ∧ σ' = ⟨σ.objs ++ [o], σ.toks⟩ ∧ (o = .cells (vcells z) ∨ o = .tcells t (vcells z)) ∧ ∀ τ : St, valloc P τ t = some (.optr τ.objs.length 0, ⟨τ.objs ++ [o], τ.toks⟩) := by
  unfold valloc at h
  split at h
  · rename_i hs
    rw [gA1] at h
    obtain ⟨z, hz, e⟩ := h
    injection e with e1 e2
    exact ⟨z, .tcells t (vcells z), hz, e1.symm, e2.symm, .inr rfl, fun τ => by unfold valloc; rw [if_pos hs, hz]; rfl⟩
  · rename_i hs
    rw [gA1] at h
    obtain ⟨z, hz, e⟩ := h
    injection e with e1 e2
    exact ⟨z, .cells (vcells z), hz, e1.symm, e2.symm, .inl rfl, fun τ => by unfold valloc; rw [if_neg hs, hz]; rfl⟩
theorem alloc_born (h : Rel base w0 g σ w) {r : Nat} (hr : g.hid r = true) {a : Act} {o : Oper} {t : TypeId} (ho : o.op = .alloc t) {z : V} (hz : zeroT P t = some z) {ob : Ob} (hob : ob = .cells (vcells z) ∨ ob = .tcells t (vcells z)) :
    OOk P base w0 g σ w (execOp a.eval o) (.optr r 0) ⟨σ.objs.set r ob, σ.toks⟩ := by
  obtain ⟨u, hu, hou⟩ := run_zeroT hz
  have hv := vcells_ok (ofVal_ok (g := g) (s := σ.toks) (w := w) hou)
  have hrn : r < g.n := by rw [h.n]; exact (gA0.1 ((h.hid r).1 hr)).1
  unfold execOp
  rw [ho]
  have E := Ext.born h hr (.cells u.cells t)
  have e1 : (g.born r w.heap.size).ρ r = w.heap.size := by simp [Gh.born]
  have e2 : (g.born r w.heap.size).ob r = 0 := by simp [Gh.born]
  refine ⟨.value (.pointer (some ⟨w.heap.size, 0, none⟩)), .pointer (some ⟨w.heap.size, 0, none⟩), w.alloc (.cells u.cells t), g.born r w.heap.size, by simp [Instr.alloc, hu, newVar, newRow, newObj, Sem.run], .inl rfl, E, h.bornA hr _ _ ?_ (by rcases hob with rfl | rfl <;> (intro h; cases h)), ?_⟩
  · rcases hob with rfl | rfl
    · simp only [ObjOk]
      rw [e1, e2]
      exact ⟨h.bs, h.lim _ (Nat.le_refl _), u.cells, t, u.cells.toList, heap_alloc_eq _ _, VRs.ext E _ hv, by simp, fun i u hu => by simpa using hu⟩
    · simp only [ObjOk]
      rw [e1, e2]
      exact ⟨h.bs, h.lim _ (Nat.le_refl _), rfl, u.cells.toList, heap_alloc_eq _ _, VRs.ext E _ hv⟩
  · simp [VR, Gh.born, Gh.has, hrn]
theorem vload_ext {objs : List Ob} {t : TypeId} {x v : V} (h : vload P objs t x = some v) (xs : List Ob) : vload P (objs ++ xs) t x = some v := by
  unfold vload at h ⊢
  have key : ∀ p, vcellsAt objs x = some p → vcellsAt (objs ++ xs) x = some p := by
    intro p hp
    unfold vcellsAt at hp ⊢
    split at hp
    · rename_i r off
      have : ∀ o, objs[r]? = some o → (objs ++ xs)[r]? = some o := fun o ho => by rw [gA2 (gA0.1 ho).1]; exact ho
      split at hp
      · rename_i cs hc; simp only [this _ hc]; exact hp
      · rename_i cs hc; simp only [this _ hc]; exact hp
      · cases hp
    · exact hp
    · cases hp
  split at h
  · rename_i cs off hc
    rw [key _ hc]
    exact h
  · cases h
end
end Go.Proofs.YtnegdinonfjdfaaDoor.Q
namespace Go.Proofs.YtnegdinonfjdfaaDoor.Q
open Go Go.RowKit
section
variable {P : Program} {base : Nat} {w0 : World} {g : Gh} {σ : St} {w : World}
theorem Rel.loopSet (h : Rel base w0 g σ w) {r : Nat} {o : Ob} (hr : σ.objs[r]? = some o) (hd : ∀ h : o.gone, False) {rec : Loop} (hb : base ≤ g.ρ r) (hL : g.L (g.ρ r) = 0) (hh : w.heap[g.ρ r]? = some (.loop rec)) (x : Loop) (o' : Ob) (hnu : ¬ o' = .unb)
    (hok : Ext g σ.toks w g σ.toks (w.putObj (g.ρ r) (.loop x)) → (w.putObj (g.ρ r) (.loop x)).heap[g.ρ r]? = some (.loop x) → ObjOk base g σ.toks (w.putObj (g.ρ r) (.loop x)) r o') :
    Ext g σ.toks w g σ.toks (w.putObj (g.ρ r) (.loop x)) ∧ Rel base w0 g ⟨σ.objs.set r o', σ.toks⟩ (w.putObj (g.ρ r) (.loop x)) := by
  have hlt := (Array.getElem?_eq_some_iff.1 hh).1
  have halr : aliveAt σ.objs r := ⟨_, hr, hd⟩
  have other : ∀ k, k ≠ g.ρ r → (w.putObj (g.ρ r) (.loop x)).heap[k]? = w.heap[k]? := fun k hk => World.putObj_heap_other hk
  have same : (w.putObj (g.ρ r) (.loop x)).heap[g.ρ r]? = some (.loop x) := World.putObj_heap_same hlt
  have E : Ext g σ.toks w g σ.toks (w.putObj (g.ρ r) (.loop x)) := {
    n := Nat.le_refl _
    has := fun _ h => h
    ρ := fun _ _ => rfl
    ob := fun _ _ => rfl
    L := fun _ => Nat.le_refl _
    cells := fun b q hlo => by
      by_cases eb : b = g.ρ r
      · subst eb; rw [hL] at hlo; omega
      · exact cell?_heap (other b eb) q
    shape := fun b c ty fr hbb => by
      by_cases eb : b = g.ρ r
      · subst eb; rw [hh] at hbb; cases hbb
      · exact ⟨c, fr, (other b eb).trans hbb, rfl, .inl rfl⟩
    nt := Nat.le_refl _
    tok := fun s _ hl => ⟨hl, rfl, rfl⟩
    dfr := fun b x hbb => by
      by_cases eb : b = g.ρ r
      · subst eb; rw [hh] at hbb; cases hbb
      · exact (other b eb).trans hbb }
  refine ⟨E, ?_⟩
  exact {
    below := h.below.trans ⟨rfl, rfl, rfl, by simp, fun i hi => other i (by omega)⟩
    bs := by simpa using h.bs
    n := by simpa using h.n
    hid := fun k => by
      by_cases e : r = k
      · subst e
        rw [gA5 (gA0.1 hr).1, h.hid, hr]
        constructor
        · intro h; injection h with h; subst h; exact (hd trivial).elim
        · intro h; injection h with h; exact (hnu h).elim
      · rw [gA3 e]
        exact h.hid k
    obj := fun k o2 hk2 => by
      rw [List.getElem?_set] at hk2
      by_cases ek : r = k
      · subst ek
        rw [if_pos rfl] at hk2
        split at hk2
        · injection hk2 with hk2
          subst hk2
          exact hok E same
        · cases hk2
      · rw [if_neg ek] at hk2
        by_cases hdd : o2.gone
        · exact ObjOk.gone hdd
        · have hne : g.ρ k ≠ g.ρ r := fun ee => ek (h.inj k r ⟨o2, hk2, hdd⟩ halr ee).symm
          exact (h.obj k o2 hk2).ext E (h.hasO hk2) (other _ hne) rfl
    inj := fun a b ha hb' => h.inj a b (alive_set hr hd ha) (alive_set hr hd hb')
    tok := fun t ht => by
      obtain ⟨h1, h2, h3⟩ := h.tok t ht
      exact ⟨h1, by simpa using h2, fun a ha => h3 a (alive_set hr hd ha)⟩
    tinj := h.tinj
    lim := fun b hb' => h.lim b (by simpa using hb') }
theorem Rel.loopNew (h : Rel base w0 g σ w) {tm : List V} {us : Array Value} (hT : VRs g σ.toks w tm us.toList) (fn : Nat) (ps : Array Tmp) (asg body : Code) :
    ∃ g', Ext g σ.toks w g' σ.toks ((w.alloc (.deferred (some []))).alloc (.loop { state := .ready, pending := none, fn := fn, tmps := us, params := ps, assign := asg, body := body, defers := w.heap.size })) ∧
      Rel base w0 g' ⟨σ.objs ++ [.lp tm ps asg body], σ.toks⟩ ((w.alloc (.deferred (some []))).alloc (.loop { state := .ready, pending := none, fn := fn, tmps := us, params := ps, assign := asg, body := body, defers := w.heap.size })) ∧
      g'.has σ.objs.length ∧ g'.ρ σ.objs.length = w.heap.size + 1 := by
  have E1 := Ext.row h (.deferred (some [])) 0
  have R1 := h.row (.deferred (some [])) 0
  have E2 := Ext.obj R1 (.loop { state := .ready, pending := none, fn := fn, tmps := us, params := ps, assign := asg, body := body, defers := w.heap.size })
  have hs : (w.alloc (.deferred (some []))).heap.size = w.heap.size + 1 := World.size_alloc _ _
  have E := E1.trans E2
  refine ⟨_, E, R1.newA _ (.lp tm ps asg body) ?_ (by intro h; cases h), ?_, ?_⟩
  · simp only [ObjOk]
    have hn : σ.objs.length = (g.row w.heap.size 0).n := h.n.symm
    have hρ : ((g.row w.heap.size 0).obj (w.alloc (.deferred (some []))).heap.size).ρ σ.objs.length = (w.alloc (.deferred (some []))).heap.size := by
      simp only [Gh.obj]; rw [if_pos hn]
    rw [hρ]
    refine ⟨by rw [hs]; have := h.bs; omega, ?_, fn, w.heap.size, us.toList, ?_, VRs.ext E _ hT⟩
    · exact R1.lim _ (Nat.le_refl _)
    · rw [heap_alloc_eq]
  · have hn : σ.objs.length = (g.row w.heap.size 0).n := h.n.symm
    refine ⟨by simp only [Gh.obj]; rw [hn]; exact Nat.lt_succ_self _, ?_⟩
    simp only [Gh.obj]; rw [if_pos hn]
  · have hn : σ.objs.length = (g.row w.heap.size 0).n := h.n.symm
    simp only [Gh.obj]; rw [if_pos hn, hs]
theorem Rel.spend (h : Rel base w0 g σ w) {D : Nat} (hD : w.heap[D]? = some (.deferred (some []))) (hb : base ≤ D) :
    Ext0 g σ.toks w g σ.toks (w.putObj D (.deferred none)) ∧ Rel base w0 g σ (w.putObj D (.deferred none)) := by
  have other : ∀ k, k ≠ D → (w.putObj D (.deferred none)).heap[k]? = w.heap[k]? := fun k hk => World.putObj_heap_other hk
  have hlt := (Array.getElem?_eq_some_iff.1 hD).1
  have same : (w.putObj D (.deferred none)).heap[D]? = some (.deferred none) := World.putObj_heap_same hlt
  have E : Ext0 g σ.toks w g σ.toks (w.putObj D (.deferred none)) := {
    n := Nat.le_refl _
    has := fun _ h => h
    ρ := fun _ _ => rfl
    ob := fun _ _ => rfl
    L := fun _ => Nat.le_refl _
    cells := fun b q hlo => by
      by_cases eb : b = D
      · subst eb; simp only [World.cell?, hD, same]
      · exact cell?_heap (other b eb) q
    shape := fun b c ty fr hbb => by
      by_cases eb : b = D
      · subst eb; rw [hD] at hbb; cases hbb
      · exact ⟨c, fr, (other b eb).trans hbb, rfl, .inl rfl⟩
    nt := Nat.le_refl _
    tok := fun s _ hl => ⟨hl, rfl, rfl⟩ }
  refine ⟨E, {
    below := h.below.trans ⟨rfl, rfl, rfl, by simp, fun i hi => other i (by omega)⟩
    bs := by simpa using h.bs
    n := h.n
    hid := h.hid
    obj := fun k o hk => by
      by_cases hdd : o.gone
      · exact ObjOk.gone hdd
      · have ho := h.obj k o hk
        have hne : g.ρ k ≠ D := fun e => by
          cases o with
          | dead => exact hdd trivial
          | unb => exact hdd trivial
          | cells cs => obtain ⟨_, _, c, ty, us, h3, _⟩ := ho; rw [e, hD] at h3; cases h3
          | tcells t cs => obtain ⟨_, _, _, us, h3, _⟩ := ho; rw [e, hD] at h3; cases h3
          | mp es => obtain ⟨_, _, a, cl, h3, _⟩ := ho; rw [e, hD] at h3; cases h3
          | lp tm ps asg body => obtain ⟨_, _, fn, df, us, h3, _⟩ := ho; rw [e, hD] at h3; cases h3
          | lpB tm ps asg body => obtain ⟨_, _, fn, df, us, h3, _⟩ := ho; rw [e, hD] at h3; cases h3
          | lpD c => obtain ⟨_, _, rec, h3, _⟩ := ho; rw [e, hD] at h3; cases h3
          | it b since seen last => obtain ⟨_, _, _, h3⟩ := ho; rw [e, hD] at h3; cases h3
          | mpR b es a clock => obtain ⟨_, _, _, h3, _⟩ := ho; rw [e, hD] at h3; cases h3
        exact ho.ext0 E (h.hasO hk) (other _ hne) rfl
    inj := h.inj
    tok := fun t ht => by
      obtain ⟨h1, h2, h3⟩ := h.tok t ht
      exact ⟨h1, by simpa using h2, h3⟩
    tinj := h.tinj
    lim := fun b hb' => h.lim b (by simpa using hb') }⟩
end
end Go.Proofs.YtnegdinonfjdfaaDoor.Q
