/- Appends. -/
import Derived.Test.YtmcadfejkcpblaaQf
set_option linter.unusedVariables false
set_option linter.unusedSimpArgs false
namespace Go.Proofs.Ytmcadfejkcpblaa.Q
open Go Go.RowKit

section
variable {P : Program} {base : Nat} {w0 : World} {g : Gh} {σ : St} {w : World}

/-- What is appended: its cells, how many elements they are. -/
structure Src (P : Program) (w : World) (t2 : TypeId) (sz : Nat) (u : Value) (news : List Value) (m : Nat) : Prop where
  ty : (∃ e, P.underlying t2 = some (.slice e)) ∨ P.underlying t2 = some .string
  len : (Builtin.lenOf u).run P w = .ok m w
  cells : (Builtin.firstCells sz m u).run P w = .ok news.toArray w
  later : (Builtin.firstCells sz m u).run P w.drew = .ok news.toArray w.drew
  size : news.length = m * sz

theorem run_append_zero {t t2 ty e : TypeId} {i : TypeInfo} (ht : P.underlying t = some (.slice e)) (hi : P.info? e = some i) {u : Value} {news : List Value} (hs : Src P w t2 i.size u news 0) (A : Option Addr) (n cap : Nat) (hc : n ≤ cap) :
    (Builtin.append_ #[t, t2] ty #[.slice A n cap, u]).run P w = .ok (.slice A n cap) w := by
  have hnews : news = [] := List.eq_nil_of_length_eq_zero (by simpa using hs.size)
  have hf := hs.cells
  rw [hnews] at hf
  have hl := hs.len
  rcases hs.ty with ⟨e2, hu⟩ | hu <;> cases A <;> simp [Builtin.append_, run_underlying ht, run_underlying hu, sizeOf, typeInfo, hi, hl, hc, hf, storeCells]

theorem run_append_grow' {t t2 ty e : TypeId} {i : TypeInfo} {z : Value} (ht : P.underlying t = some (.slice e)) (hi : P.info? e = some i) (hz : i.zero = some z) {u : Value} {news olds : List Value} {m : Nat} (hs : Src P w t2 i.size u news m)
    (A : Option Addr) (n cap : Nat) (hold : (Builtin.firstCells i.size n (.slice A n cap)).run P w.drew = .ok olds.toArray w.drew) (hg : cap < n + m) (h63 : n + m ≤ 140737488355328) (hb : (n + m) * i.bytes ≤ 140737488355328) :
    (Builtin.append_ #[t, t2] ty #[.slice A n cap, u]).run P w =
      .ok (.slice (some ⟨w.heap.size, 0, none⟩) (n + m) (grownCap w (n + m) cap e)) (w.drew.alloc (.cells (olds.toArray ++ news.toArray ++ Builtin.zeroCells z.cells (grownCap w (n + m) cap e - (n + m))) e)) := by
  have hl := hs.len
  have hf := hs.later
  have hn : ¬ (n + m ≤ cap) := by omega
  have h63' : ¬ (9223372036854775807 < ((n : Int) + (m : Int))) := by omega
  have h48' : ¬ (281474976710656 < Builtin.nextslicecap (n + m) cap * i.bytes) := by have := growslice_fits (need := n + m) (old := cap) (bytes := i.bytes) hg hb; omega
  rcases hs.ty with ⟨e2, hu⟩ | hu <;>
    (simp [Builtin.append_, run_underlying ht, run_underlying hu, sizeOf, typeInfo, zeroValue, hi, hz, hl, hn, h63', h48', Question.forced, hf, hold, newRow, grownCap]
     congr 2
     apply Array.ext'
     simp [List.append_assoc])

theorem run_append_in {t t2 ty e : TypeId} {i : TypeInfo} (ht : P.underlying t = some (.slice e)) (hi : P.info? e = some i) {u : Value} {news : List Value} {m : Nat} (hs : Src P w t2 i.size u news m)
    (b n cap : Nat) (cur : Array Value) (hb : w.heap[b]? = some (.cells cur e (0, 0))) (hroom : n + m ≤ cap) (hcur : cur.size = cap * i.size) (h1 : ∀ u ∈ news, u.oneCell' = true) :
    (Builtin.append_ #[t, t2] ty #[.slice (some ⟨b, 0, none⟩) n cap, u]).run P w =
      .ok (.slice (some ⟨b, 0, none⟩) (n + m) cap) (w.setRow b (cur.toList.take (n * i.size) ++ news ++ cur.toList.drop (n * i.size + news.length)).toArray) := by
  have hl := hs.len
  have hf := hs.cells
  have hfit : n * i.size + news.length ≤ cur.size := by rw [hs.size, hcur, ← Nat.add_mul]; exact Nat.mul_le_mul_right _ hroom
  have hst := run_storeCells_at P b (n * i.size) e news 0 cur w hb (by simpa using hfit) h1
  simp only [Nat.add_zero] at hst
  rcases hs.ty with ⟨e2, hu⟩ | hu <;> simp [Builtin.append_, run_underlying ht, run_underlying hu, sizeOf, typeInfo, hi, hl, hroom, hf, Addr.add_lit, hst]

def byteV (b : UInt8) : V := .int .u8 (b.toNat : Int)

def vnews (P : Program) (t2 : TypeId) (x : V) (sz : Nat) : Option (List V × Nat) :=
  match P.underlying t2, x with
  | some (.slice _), .nils => some ([], 0)
  | some (.slice _), .slice _ e2 ys m => if e2 = sz then some (ys, m) else none
  | some .string, .str l => if sz = 1 then some (l.map byteV, l.length) else none
  | _, _ => none

theorem vnews_ok {t2 : TypeId} {x : V} {u : Value} {sz : Nat} {ys : List V} {m : Nat} (hx : VR g σ.toks w x u) (h : vnews P t2 x sz = some (ys, m)) : ∃ news, Src P w t2 sz u news m ∧ VRs g σ.toks w ys news := by
  unfold vnews at h
  split at h
  · rename_i e hu
    injection h with h
    injection h with h1 h2
    subst h1 h2
    simp only [VR] at hx; subst hx
    exact ⟨[], ⟨.inl ⟨e, hu⟩, by simp [Builtin.lenOf], by simp [Builtin.firstCells], by simp [Builtin.firstCells], by simp⟩, by simp [VRs]⟩
  · rename_i e p e2 cs n hu
    split at h
    · rename_i he
      injection h with h
      injection h with h1 h2
      subst h1 h2 he
      simp only [VR] at hx
      obtain ⟨ad, cap, us, rfl, hl, hc, hm, hr, hs, hp⟩ := hx
      have hul := hs.length
      have hcell : ∀ j v, us[j]? = some v → w.cell? (ad.add j) = some v := hr.cell
      exact ⟨us, ⟨.inl ⟨e, hu⟩, by simp [Builtin.lenOf], run_firstCells_some w e2 n _ n cap us (by omega) hcell, run_firstCells_some w.drew e2 n _ n cap us (by omega) hcell, by omega⟩, hs⟩
    · cases h
  · rename_i l hu
    split at h
    · rename_i he
      injection h with h
      injection h with h1 h2
      subst h1 h2 he
      simp only [VR] at hx; subst hx
      have hsz : (⟨l.toArray⟩ : ByteArray).size = l.length := size_mk l
      have hf : ∀ W : World, (Builtin.firstCells 1 l.length (.string ⟨l.toArray⟩)).run P W = .ok (Lib.strCells ⟨l.toArray⟩).toArray W := fun W => by
        have := Lib.run_firstCells_string (P := P) W 1 ⟨l.toArray⟩
        rw [hsz] at this
        exact this
      have hsc : Lib.strCells ⟨l.toArray⟩ = l.map fun b => Value.int .u8 (b.toNat : Int) := by simp [Lib.strCells]
      refine ⟨Lib.strCells ⟨l.toArray⟩, ⟨.inr hu, by simp [Builtin.lenOf, hsz], hf w, hf w.drew, by rw [hsc]; simp⟩, ?_⟩
      rw [hsc]
      refine VRs.of_get (by simp) fun i v u hv hu' => ?_
      rw [List.getElem?_map] at hv hu'
      cases hb : l[i]? with
      | none => rw [hb] at hv; cases hv
      | some b =>
        rw [hb] at hv hu'
        simp at hv hu'
        subst hv hu'
        simp [VR, byteV]
    · cases h
  · cases h

/-- What is appended, a written row too. -/
def vnewsO (P : Program) (objs : List Ob) (t2 : TypeId) (x : V) (sz : Nat) : Option (List V × Nat) := match vnews P t2 x sz with
  | some r => some r
  | none => match P.underlying t2, x with
    | some (.slice _), .hslice r off e2 m => match objs[r]? with
      | some (.cells cs) => if e2 = sz ∧ off + m * sz ≤ cs.length then some ((cs.drop off).take (m * sz), m) else none
      | _ => none
    | _, _ => none

/-- The cells of a part of an object. -/
theorem Rel.part (h : Rel base w0 g σ w) {r : Nat} {cs : List V} (hr : σ.objs[r]? = some (.cells cs)) (off n : Nat) (hl : off + n ≤ cs.length) :
    ∃ us, VRs g σ.toks w ((cs.drop off).take n) us ∧ us.length = n ∧ ∀ j u, us[j]? = some u → w.cell? ⟨g.ρ r, g.ob r + off + j, none⟩ = some u := by
  obtain ⟨h1, h2, c, ty, us, hh, hus, hlen, hc⟩ := h.obj r _ hr
  have hul := hus.length
  refine ⟨(us.drop off).take n, VRs.of_get ?_ fun i v u hv hu => ?_, by rw [List.length_take, List.length_drop]; omega, fun j u hu => ?_⟩
  · rw [List.length_take, List.length_drop, List.length_take, List.length_drop]; omega
  · have hi : i < n := by
      have := (List.getElem?_eq_some_iff.1 hv).1
      rw [List.length_take] at this
      omega
    rw [List.getElem?_take_of_lt hi, List.getElem?_drop] at hv hu
    obtain ⟨y, hy, hR⟩ := hus.get _ hv
    rw [hy] at hu
    injection hu with hu
    rw [← hu]; exact hR
  · have hj : j < n := by
      have := (List.getElem?_eq_some_iff.1 hu).1
      rw [List.length_take] at this
      omega
    rw [List.getElem?_take_of_lt hj, List.getElem?_drop] at hu
    have := hc _ _ hu
    simp only [World.cell?, hh]
    rw [Nat.add_assoc]
    simpa using this

theorem vnewsO_ok (h : Rel base w0 g σ w) {t2 : TypeId} {x : V} {u : Value} {sz : Nat} {ys : List V} {m : Nat} (hx : VR g σ.toks w x u) (hn : vnewsO P σ.objs t2 x sz = some (ys, m)) : ∃ news, Src P w t2 sz u news m ∧ VRs g σ.toks w ys news := by
  unfold vnewsO at hn
  split at hn
  · rename_i r hr
    injection hn with hn
    subst hn
    exact vnews_ok hx hr
  · split at hn
    · rename_i e r off e2 n hu _
      split at hn
      · rename_i cs hr
        split at hn
        · rename_i hc
          obtain ⟨rfl, hc2⟩ := hc
          injection hn with hn
          injection hn with h1 h2
          subst h1 h2
          simp only [VR] at hx
          obtain ⟨hrn, cap, rfl, hle, hmx, hbs⟩ := hx
          obtain ⟨us, hv, hul, hcell⟩ := h.part hr off (n * e2) hc2
          have hc : ∀ W : World, W = w ∨ W = w.drew → ∀ j v, us[j]? = some v → W.cell? ((⟨g.ρ r, g.ob r + off, none⟩ : Addr).add j) = some v := by
            intro W hW j v hj
            rw [Addr.add_lit]
            rcases hW with rfl | rfl
            · exact hcell j v hj
            · exact hcell j v hj
          exact ⟨us, ⟨.inl ⟨e, hu⟩, by simp [Builtin.lenOf], run_firstCells_some w e2 n _ n cap us hul (hc _ (.inl rfl)), run_firstCells_some w.drew e2 n _ n cap us hul (hc _ (.inr rfl)), hul⟩, hv⟩
        · cases hn
      · cases hn
    · cases hn

theorem vnewsO_of {objs : List Ob} {t2 : TypeId} {x : V} {sz : Nat} {r : List V × Nat} (h : vnews P t2 x sz = some r) : vnewsO P objs t2 x sz = some r := by unfold vnewsO; rw [h]

def vappend (P : Program) (σ : St) (t t2 : TypeId) (s x : V) : Option (V × St) :=
  match P.underlying t with
  | some (.slice e) => match (P.info? e).map (·.bytes), sizeT P e, zeroT P e with
    | some by_, some sz, some z => match vnewsO P σ.objs t2 x sz with
      | some (ys, m) =>
        if (vcells z).length ≠ sz ∨ sz = 0 then none else
        match s with
        | .nils => if m = 0 then some (.nils, σ) else
          if m ≤ 140737488355328 ∧ m * by_ ≤ 140737488355328 then some (.slice (.tok σ.toks.length e) sz ys m, ⟨σ.objs, σ.toks ++ [true]⟩) else none
        | .slice p e2 cs n => if m = 0 then some (.slice p e2 cs n, σ) else
          if e2 = sz ∧ n + m ≤ 140737488355328 ∧ (n + m) * by_ ≤ 140737488355328 then
            match p with
            | .ro => none
            | .exact => some (.slice (.tok σ.toks.length e) sz (cs ++ ys) (n + m), ⟨σ.objs, σ.toks ++ [true]⟩)
            | .tok k e3 => if tokLive σ.toks k = true ∧ e3 = e ∧ ys.all one = true then
                some (.slice (.tok σ.toks.length e) sz (cs ++ ys) (n + m), ⟨σ.objs, killTok σ.toks k ++ [true]⟩)
              else none
          else none
        | _ => none
      | none => none
    | _, _, _ => none
  | _ => none

theorem grown_ok (h : Rel base w0 g σ w) {e : TypeId} {z : Value} {sz : Nat} (hz : z.cells.size = sz) (olds news : List Value) (cs ys : List V) (hco : VRs g σ.toks w cs olds) (hy : VRs g σ.toks w ys news) (n m cap : Nat) (hcl : cs.length = n * sz) (hyl : ys.length = m * sz)
    (h63 : n + m ≤ 140737488355328) :
    ∃ g', Ext g σ.toks w g' (σ.toks ++ [true]) (w.drew.alloc (.cells (olds.toArray ++ news.toArray ++ Builtin.zeroCells z.cells (grownCap w (n + m) cap e - (n + m))) e)) ∧
      Rel base w0 g' ⟨σ.objs, σ.toks ++ [true]⟩ (w.drew.alloc (.cells (olds.toArray ++ news.toArray ++ Builtin.zeroCells z.cells (grownCap w (n + m) cap e - (n + m))) e)) ∧
      VR g' (σ.toks ++ [true]) (w.drew.alloc (.cells (olds.toArray ++ news.toArray ++ Builtin.zeroCells z.cells (grownCap w (n + m) cap e - (n + m))) e)) (.slice (.tok σ.toks.length e) sz (cs ++ ys) (n + m)) (.slice (some ⟨w.heap.size, 0, none⟩) (n + m) (grownCap w (n + m) cap e)) := by
  have hge := grownCap_ge w (n + m) cap e
  have hol := hco.length
  have hnl := hy.length
  have hv : VRs g σ.toks w.drew (cs ++ ys) (olds ++ news) := VRs.ext (Ext.drew g σ.toks w) _ (hco.append hy)
  have hlen : (olds ++ news).length = (n + m) * sz := by rw [List.length_append, Nat.add_mul]; omega
  have := newRow_ok h.drew (olds.toArray ++ news.toArray ++ Builtin.zeroCells z.cells (grownCap w (n + m) cap e - (n + m))) e (cs ++ ys) (olds ++ news) hv
    (by simp only [Array.toList_append, List.append_assoc]; rw [← List.append_assoc]; exact List.take_left) (n + m) (grownCap w (n + m) cap e) sz (by rw [List.length_append, Nat.add_mul]; omega) hge
    (grownCap_le_maxLen w (n + m) cap e (by unfold maxLen; omega))
    (by
      rw [Array.size_append, Array.size_append, size_zeroCells, hz]
      simp only [List.size_toArray]
      have : olds.length + news.length = (n + m) * sz := by rw [← List.length_append]; exact hlen
      rw [this, ← Nat.add_mul]
      congr 1
      omega)
  exact ⟨_, (Ext.drew g σ.toks w).trans this.1, this.2.1, this.2.2⟩

theorem vappend_ok (h : Rel base w0 g σ w) {t t2 ty : TypeId} {s x v : V} {a b : Value} {σ' : St} (hs : VR g σ.toks w s a) (hx : VR g σ.toks w x b) (ha : vappend P σ t t2 s x = some (v, σ')) :
    MOk P base w0 g σ w (Builtin.append_ #[t, t2] ty #[a, b]) v σ' := by
  unfold vappend at ha
  split at ha
  · rename_i e ht
    split at ha
    · rename_i by_ sz z hby hsz hz
      obtain ⟨it, uz, hit, hzu, ho⟩ := zeroT_parts hz
      have hby' : it.bytes = by_ := by rw [hit] at hby; simpa using hby
      have hsz' : it.size = sz := by unfold sizeT at hsz; rw [hit] at hsz; simpa using hsz
      split at ha
      · rename_i ys m hn
        obtain ⟨news, hsrc, hvn⟩ := vnewsO_ok h hx hn
        rw [← hsz'] at hsrc
        have hyl : ys.length = m * sz := by rw [hvn.length, hsrc.size, hsz']
        split at ha
        · cases ha
        · rename_i hz0
          have hz1 : (vcells z).length = sz := Classical.byContradiction fun h => hz0 (.inl h)
          have hz2 : sz ≠ 0 := fun h => hz0 (.inr h)
          have hzc : uz.cells.size = sz := by
            have := (vcells_ok (ofVal_ok (g := g) (s := σ.toks) (w := w) ho)).length
            rw [← hz1, this]
            simp
          split at ha
          · simp only [VR] at hs; subst hs
            split at ha
            · rename_i hm
              subst hm
              injection ha with ha
              injection ha with h1 h2
              subst h1 h2
              exact ⟨.slice none 0 0, w, g, run_append_zero ht hit hsrc none 0 0 (Nat.le_refl _), Ext.refl _ _ _, h, by simp [VR]⟩
            · rename_i hm
              split at ha
              · rename_i hb
                injection ha with ha
                injection ha with h1 h2
                subst h1 h2
                have hrun := run_append_grow' (ty := ty) ht hit hzu hsrc none 0 0 (olds := []) (by simp [Builtin.firstCells]) (by omega) (by omega) (by rw [Nat.zero_add, hby']; exact hb.2)
                obtain ⟨g', hE, hR, hV⟩ := grown_ok (e := e) h hzc [] news [] ys (by simp [VRs]) hvn 0 m 0 (by simp) hyl (by omega)
                refine ⟨_, _, g', hrun, hE, hR, ?_⟩
                simpa using hV
              · cases ha
          · rename_i p e2 cs n
            split at ha
            · rename_i hm
              subst hm
              injection ha with ha
              injection ha with h1 h2
              subst h1 h2
              have hs2 := hs
              simp only [VR] at hs2
              obtain ⟨ad, cap, us, rfl, hl, hc, hmx, hr, hvs, hp⟩ := hs2
              exact ⟨_, w, g, run_append_zero ht hit hsrc _ n cap hc, Ext.refl _ _ _, h, hs⟩
            · rename_i hm
              split at ha
              · rename_i hb
                obtain ⟨hb1, hb2, hb3⟩ := hb
                subst hb1
                simp only [VR] at hs
                obtain ⟨ad, cap, us, rfl, hl, hc, hmx, hr, hvs, hp⟩ := hs
                have hold : ∀ W : World, W = w ∨ W = w.drew → (Builtin.firstCells it.size n (.slice (some ad) n cap)).run P W = .ok us.toArray W := fun W hW => by
                  refine run_firstCells_some W it.size n _ n cap us (by rw [← hvs.length, hl, hsz']) (fun j v hj => ?_)
                  rcases hW with rfl | rfl
                  · exact hr.cell j v hj
                  · exact hr.cell j v hj
                split at ha
                · cases ha
                · injection ha with ha
                  injection ha with h1 h2
                  subst h1 h2
                  simp only [PermOk] at hp
                  have hrun := run_append_grow' (ty := ty) ht hit hzu hsrc (some ad) n cap (hold _ (.inr rfl)) (by omega) hb2 (by rw [hby']; exact hb3)
                  obtain ⟨g', hE, hR, hV⟩ := grown_ok (e := e) h hzc us news cs ys hvs hvn n m cap hl hyl hb2
                  exact ⟨_, _, g', hrun, hE, hR, hV⟩
                · rename_i k e3
                  split at ha
                  · rename_i hk
                    obtain ⟨hk1, hk2, hk3⟩ := hk
                    subst hk2
                    injection ha with ha
                    injection ha with h1 h2
                    subst h1 h2
                    simp only [PermOk] at hp
                    obtain ⟨hp1, hp2⟩ := hp
                    obtain ⟨hp3, hp5, cur, hp6, hp7⟩ := hp2 hk1
                    subst hp3
                    by_cases hroom : n + m ≤ cap
                    · have hrun := run_append_in (ty := ty) ht hit hsrc (g.tk k) n cap cur hp6 hroom (by rw [hsz']; exact hp7) (ones_ok hvn hk3)
                      have hfit : n * it.size + news.length ≤ cur.size := by rw [hsrc.size, hp7, hsz', ← Nat.add_mul]; exact Nat.mul_le_mul_right _ hroom
                      have hnl := hsrc.size
                      have hle : n * e2 ≤ cur.size := by rw [hp7]; exact Nat.mul_le_mul_right _ hc
                      have hsize : ((cur.toList.take (n * it.size) ++ news ++ cur.toList.drop (n * it.size + news.length)).toArray).size = cur.size := by
                        simp only [List.size_toArray, List.length_append, List.length_take, List.length_drop, Array.length_toList]
                        omega
                      have hA := h.appendIn (w' := w.setRow (g.tk k) (cur.toList.take (n * it.size) ++ news ++ cur.toList.drop (n * it.size + news.length)).toArray) hk1 hp6 (setRow_heap w (g.tk k) cur _ e3 _ hp6) hsize
                        (fun q hq => setRow_other w (g.tk k) q _ hq) (by simp) rfl rfl rfl (fun q hq => by
                          rw [← hp5] at hq
                          simp only [List.getElem?_toArray, List.append_assoc]
                          rw [List.getElem?_append_left (by simp only [List.length_take, Array.length_toList]; rw [hsz']; omega)]
                          rw [List.getElem?_take_of_lt (by rw [hsz']; exact hq)]
                          simp) ((n + m) * e2) (by rw [← hp5]; exact Nat.mul_le_mul_right _ (by omega))
                      obtain ⟨hE, hR⟩ := hA
                      refine ⟨_, _, _, hrun, hE, hR, ?_⟩
                      have hul := hvs.length
                      simp only [VR]
                      refine ⟨⟨g.tk k, 0, none⟩, cap, us ++ news, rfl, by rw [List.length_append, Nat.add_mul]; omega, hroom, hmx, fun _ => ⟨rfl, ?_, fun j u hj => ?_⟩, VRs.ext hE _ (hvs.append hvn), ⟨by simp [length_kill], fun _ => ⟨by simp [Gh.token], by simp [Gh.token, Gh.row], _, by simp only [Gh.token, if_pos]; exact setRow_heap w (g.tk k) cur _ e3 _ hp6, by rw [hsize]; exact hp7⟩⟩⟩
                      · simp only [Gh.token, Gh.row, if_pos]
                        rw [List.length_append, Nat.add_mul, hnl, hsz']
                        omega
                      · have hjl : j < (us ++ news).length := (List.getElem?_eq_some_iff.1 hj).1
                        rw [Nat.zero_add]
                        simp only [World.cell?, setRow_heap w (g.tk k) cur _ e3 _ hp6]
                        have htake : cur.toList.take (n * it.size) = us := by
                          apply List.ext_getElem?
                          intro q
                          by_cases hq : q < us.length
                          · have h9 := hr.cell q _ (List.getElem?_eq_getElem hq)
                            rw [Addr.add_lit, Nat.zero_add] at h9
                            simp only [World.cell?, hp6] at h9
                            rw [List.getElem?_take_of_lt (by rw [hsz']; omega), List.getElem?_eq_getElem hq]
                            simpa using h9
                          · rw [List.getElem?_eq_none (l := us) (by omega), List.getElem?_eq_none (l := cur.toList.take (n * it.size)) (by rw [List.length_take, hsz', Array.length_toList]; omega)]
                        rw [htake]
                        simp only [Option.isSome_none, Bool.false_eq_true, if_false, List.getElem?_toArray]
                        rw [List.getElem?_append_left (by simpa using hjl)]
                        exact hj
                    · have hK := h.kill k
                      have hEK := Ext.kill g σ.toks w k
                      have hrun := run_append_grow' (ty := ty) ht hit hzu hsrc (some ⟨g.tk k, 0, none⟩) n cap (hold _ (.inr rfl)) (by omega) hb2 (by rw [hby']; exact hb3)
                      obtain ⟨g', hE, hR, hV⟩ := grown_ok (e := e3) hK hzc us news cs ys (VRs.ext hEK _ hvs) (VRs.ext hEK _ hvn) n m cap hl hyl hb2
                      refine ⟨_, _, g', hrun, hEK.trans hE, hR, ?_⟩
                      simpa [length_kill] using hV
                  · cases ha
              · cases ha
          · cases ha
      · cases ha
    · cases ha
  · cases ha
end
end Go.Proofs.Ytmcadfejkcpblaa.Q
