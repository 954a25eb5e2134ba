/- A part of the proof: Ke, Kf, Kg, Kh, Ki, Kj, Kk, Rw, Kl, Sa, Sb, Sc, Sd, Se, Sf, Sg, Si, Sj, Lw. -/
import Derived.Test.YtnegdinonfjdfaaDoorMb6
import Derived.Test.YtnegdinonfjdfaaDoorMb5
import Derived.Test.YtnegdinonfjdfaaDoorCards
import Derived.Test.YtnegdinonfjdfaaDoorTie
import Derived.WalkKit
import Derived.ProofKit
import Derived.OpenShut
import Derived.Deep.DeepHandedRow
import Derived.Deep.DeepWitnessRowRef
import Derived.Lib.LaidTab
import Derived.LaidSub
import Derived.Stop.LaidErr
/- Files change. -/
set_option linter.unusedVariables false
set_option linter.unusedSimpArgs false
set_option maxRecDepth 100000
namespace Go.Proofs.YtnegdinonfjdfaaDoor.Q
open Go Go.RowKit Go.Proofs
theorem SBB : sizeT Tryd.prog 22 = some 1 := pSB
theorem rowOf_len {objs : List Ob} {v : V} {q : Option Nat} {cs : List V} (h : rowOf objs v = some (q, cs)) : vlen Tryd.prog 22 v = some (.int .i64 (cs.length : Nat)) := by
  rcases rowOf_spec h with ⟨rfl, rfl, rfl⟩ | ⟨r, full, rfl, _⟩ <;> simp [vlen, pTB]
theorem rowOf_frame {objs objs2 : List Ob} {v : V} {q : Option Nat} {cs : List V} (h : rowOf objs v = some (q, cs)) (hk : ∀ x ∈ q.toList, ∀ o, objs[x]? = some o → objs2[x]? = some o) : rowOf objs2 v = some (q, cs) := by
  rcases rowOf_spec h with ⟨rfl, rfl, rfl⟩ | ⟨r, full, e1, e2, hr, hl, hc⟩
  · rfl
  · exact rowOf_eq h fun x hx => by
      rw [e2] at hx; injection hx with hx; subst hx
      rw [hr]; exact hk _ (by simp [e2]) _ hr
/-! ### A file changes -/
theorem flat_mid (a b : List Ent) (p : Ent) : ((a ++ p :: b).flatMap fun p => p.2.ids) = (a.flatMap fun p => p.2.ids) ++ (p.2.ids ++ b.flatMap fun p => p.2.ids) := by simp
/-- The names of the objects of a disk whose file changed. -/
theorem nodup_mid {A I J B : List Nat} {n : Nat} (h : (A ++ (I ++ B)).Nodup) (hl : ∀ x ∈ A ++ (I ++ B), x < n) (hj : J.Nodup) (hs : ∀ x ∈ J, x ∈ I ∨ n ≤ x) : (A ++ (J ++ B)).Nodup := by
  rw [List.nodup_append, List.nodup_append] at h ⊢
  obtain ⟨h1, ⟨h2, h3, h4⟩, h5⟩ := h
  refine ⟨h1, ⟨hj, h3, fun x hx y hy e => ?_⟩, fun x hx y hy e => ?_⟩
  · rcases hs x hx with h | h
    · exact h4 x h y hy e
    · have := hl y (by simp [hy]); omega
  · rcases List.mem_append.1 hy with hy | hy
    · rcases hs y hy with h | h
      · exact h5 x hx y (List.mem_append_left _ h) e
      · have := hl x (by simp [hx]); omega
    · exact h5 x hx y (List.mem_append_right _ hy) e
theorem putF_perm {l : List Fl} {f x : Fl} {A B : List Fl} (hr : l.Pairwise fun f g => f.name < g.name) (hp : (A ++ f :: B).Perm l) (hx : x.name = f.name) : (A ++ x :: B).Perm (putF x l) := by
  have hnl : (l.map Fl.name).Nodup := by
    rw [List.nodup_iff_pairwise_ne, List.pairwise_map]
    exact hr.imp fun {f g} hlt (he : f.name = g.name) => lt_irrefl' f.name (by rw [← he] at hlt; exact hlt)
  have hn2 : ((putF x l).map Fl.name).Nodup := by
    rw [List.nodup_iff_pairwise_ne, List.pairwise_map]
    exact (rise_putF hr).imp fun {f g} hlt (he : f.name = g.name) => lt_irrefl' f.name (by rw [← he] at hlt; exact hlt)
  have hn1 : ((A ++ f :: B).map Fl.name).Nodup := (hp.map _).nodup_iff.2 hnl
  have hn3 : ((A ++ x :: B).map Fl.name).Nodup := by
    simp only [List.map_append, List.map_cons, hx] at hn1 ⊢
    exact hn1
  refine fl_perm hn3 hn2 fun g => ?_
  rw [mem_putF, ← hp.mem_iff, List.mem_append, List.mem_cons, List.mem_append, List.mem_cons]
  have hA : ∀ g, g ∈ A → g.name ≠ x.name := fun g hg e => by
    simp only [List.map_append, List.map_cons] at hn3
    rw [List.nodup_append] at hn3
    exact hn3.2.2 _ (List.mem_map_of_mem hg) _ (List.mem_cons_self ..) e
  have hB : ∀ g, g ∈ B → g.name ≠ x.name := fun g hg e => by
    simp only [List.map_append, List.map_cons] at hn3
    rw [List.nodup_append, List.nodup_cons] at hn3
    exact hn3.2.1.1 (by rw [← e]; exact List.mem_map_of_mem hg)
  constructor
  · rintro (h | rfl | h)
    · exact .inr ⟨.inl h, hA g h⟩
    · exact .inl rfl
    · exact .inr ⟨.inr (.inr h), hB g h⟩
  · rintro (rfl | ⟨h | rfl | h, h2⟩)
    · exact .inr (.inl rfl)
    · exact .inl h
    · exact absurd hx.symm h2
    · exact .inr (.inr h)
theorem DiskAt.change {σ σ' : St} {r rm : Nat} {d d2 : Dk} {fs a b : List Ent} {p p' : Ent} {n : List UInt8} (h : DiskAt σ r d rm fs) (hok : d.Ok) (hA : Has d fs a b p n) (hk : KS p.2.ids σ σ') (hF : FAt σ'.objs p') (hrf : p'.2.rf = p.2.rf) (hn : p'.1.name = n)
    (hnd : p'.2.ids.Nodup) (hids : ∀ x ∈ p'.2.ids, x ∈ p.2.ids ∨ σ.objs.length ≤ x) (hd2 : d2 = { d with files := putF p'.1 d.files }) : DiskAt σ' r d2 rm (a ++ p' :: b) ∧ KS (foot r rm fs) σ σ' ∧ ∀ x ∈ foot r rm (a ++ p' :: b), x ∈ foot r rm fs ∨ σ.objs.length ≤ x := by
  have hlt := h.lt
  have hN := h.nd
  have hfs := hA.e
  subst hfs
  have hpm := h.pm
  have hN0 := hN
  unfold foot at hN
  rw [List.nodup_cons, List.nodup_cons, flat_mid] at hN
  obtain ⟨n1, n2, n3⟩ := hN
  have hdj : ∀ q ∈ a ++ b, ∀ x ∈ q.2.ids, x ∉ p.2.ids := by
    intro q hq x hx hx2
    rw [List.nodup_append, List.nodup_append] at n3
    rcases List.mem_append.1 hq with hq | hq
    · exact n3.2.2 x (List.mem_flatMap.2 ⟨q, hq, hx⟩) x (List.mem_append_left _ hx2) rfl
    · exact n3.2.1.2.2 x hx2 x (List.mem_flatMap.2 ⟨q, hq, hx⟩) rfl
  have hpi : ∀ x ∈ p.2.ids, x ∈ foot r rm (a ++ p :: b) := fun x hx => by
    simp only [foot, List.mem_cons, List.mem_flatMap]
    exact .inr (.inr ⟨p, by simp, hx⟩)
  have hrp : r ∉ p.2.ids := fun hx => n1 (List.mem_cons_of_mem _ (by simp [hx]))
  have hmp : rm ∉ p.2.ids := fun hx => n2 (by simp [hx])
  have hfoot : ∀ x ∈ foot r rm (a ++ p' :: b), x ∈ foot r rm (a ++ p :: b) ∨ σ.objs.length ≤ x := by
    intro x hx
    simp only [foot, List.mem_cons, List.flatMap_append, List.flatMap_cons, List.mem_append] at hx ⊢
    rcases hx with hx | hx | hx | hx | hx
    · exact .inl (.inl hx)
    · exact .inl (.inr (.inl hx))
    · exact .inl (.inr (.inr (.inl hx)))
    · rcases hids x hx with h | h
      · exact .inl (.inr (.inr (.inr (.inl h))))
      · exact .inr h
    · exact .inl (.inr (.inr (.inr (.inr hx))))
  have hent : (a ++ p' :: b).map fent = (a ++ p :: b).map fent := by
    simp only [List.map_append, List.map_cons]
    rw [show fent p' = fent p by simp only [fent, hn, hA.nm, hrf]]
  refine ⟨⟨?_, ?_, fun q hq => ?_, ?_, ?_⟩, hk.mono fun x hx => .inl (hpi x hx), hfoot⟩
  · rw [hd2]; exact hk.ko _ _ hrp h.hd
  · rw [hent]; exact hk.ko _ _ hmp h.hm
  · by_cases hqp : q ∈ a ++ b
    · have hqm : q ∈ a ++ p :: b := by
        rcases List.mem_append.1 hqp with h | h <;> simp [h]
      exact (h.hf q hqm).frame fun x hx o ho => hk.ko _ _ (hdj q hqp x hx) ho
    · have : q = p' := by
        simp only [List.mem_append, List.mem_cons, not_or] at hq hqp
        rcases hq with h | h | h
        · exact absurd h hqp.1
        · exact h
        · exact absurd h hqp.2
      subst this
      exact hF
  · have hx := nodup_mid (n := σ.objs.length) (A := r :: rm :: a.flatMap fun p => p.2.ids) (I := p.2.ids) (J := p'.2.ids) (B := b.flatMap fun p => p.2.ids) (by
      unfold foot at hN0; rw [flat_mid] at hN0; exact hN0) (fun x hx => hlt x (by unfold foot; rw [flat_mid]; exact hx)) hnd hids
    unfold foot
    rw [flat_mid]
    exact hx
  · rw [hd2]
    simp only [List.map_append, List.map_cons] at hpm ⊢
    exact putF_perm hok.rise hpm (by rw [hn, hA.nm])
end Go.Proofs.YtnegdinonfjdfaaDoor.Q

/- What keeps a disk right. -/
set_option linter.unusedVariables false
set_option linter.unusedSimpArgs false
set_option maxRecDepth 100000
namespace Go.Proofs.YtnegdinonfjdfaaDoor.Q
open Go Go.RowKit Go.Proofs
/-- A file's two rows change. -/
theorem FAt.upd {σ σa : St} {p : Ent} {s' w' : V} {qs qw : Option Nat} {f' : Fl} (h : FAt σ.objs p) (hk : KS (p.2.rs.toList ++ p.2.rw.toList) σ σa) (hnd : p.2.ids.Nodup) (hlt : ∀ x ∈ p.2.ids, x < σ.objs.length)
    (hs : rowOf σa.objs s' = some (qs, f'.safe.map byteV)) (hw : rowOf σa.objs w' = some (qw, f'.wait.map byteV)) (hq : ∀ x ∈ qs.toList ++ qw.toList, x ∈ p.2.rs.toList ++ p.2.rw.toList ∨ σ.objs.length ≤ x) (hqn : (qs.toList ++ qw.toList).Nodup) :
    ∃ p' : Ent, p'.1 = f' ∧ p'.2.rf = p.2.rf ∧ FAt (σa.objs.set p.2.rf (.cells [s', w'])) p' ∧ KS p.2.ids σ ⟨σa.objs.set p.2.rf (.cells [s', w']), σa.toks⟩ ∧ p'.2.ids.Nodup ∧ (∀ x ∈ p'.2.ids, x ∈ p.2.ids ∨ σ.objs.length ≤ x) ∧ σa.objs[p.2.rf]? = some (.cells [p.2.s, p.2.w]) := by
  have hrfl := hlt p.2.rf (by simp [FO.ids])
  simp only [FO.ids, List.nodup_cons] at hnd
  have hrf : p.2.rf ∉ qs.toList ++ qw.toList := fun hx => by
    rcases hq _ hx with h | h
    · exact hnd.1 h
    · omega
  have hoba : σa.objs[p.2.rf]? = some (.cells [p.2.s, p.2.w]) := hk.ko _ _ hnd.1 h.ob
  have hk1 : KS p.2.ids σ σa := hk.mono fun x hx => .inl (by simp only [FO.ids, List.mem_cons]; exact .inr hx)
  refine ⟨(f', ⟨p.2.rf, s', qs, f'.safe.map byteV, w', qw, f'.wait.map byteV⟩), rfl, rfl, ⟨obj_set hoba, ?_, ?_, rfl, rfl⟩, hk1.trans' (KS.set (.inl (by simp [FO.ids])) _), ?_, ?_, hoba⟩
  · refine rowOf_frame hs fun x hx o ho => ?_
    rw [List.getElem?_set_ne]
    · exact ho
    · rintro rfl; exact hrf (List.mem_append_left _ hx)
  · refine rowOf_frame hw fun x hx o ho => ?_
    rw [List.getElem?_set_ne]
    · exact ho
    · rintro rfl; exact hrf (List.mem_append_right _ hx)
  · simp only [FO.ids, List.nodup_cons]; exact ⟨hrf, hqn⟩
  · intro x hx
    simp only [FO.ids, List.mem_cons] at hx ⊢
    rcases hx with h | h
    · exact .inl (.inl h)
    · rcases hq x h with h | h
      · exact .inl (.inr h)
      · exact .inr h
/-- What a disk is behind a call. -/
def Next (σ : St) (r rm : Nat) (fs : List Ent) (σ' : St) (d' : Dk) : Prop := ∃ fs', DiskAt σ' r d' rm fs' ∧ KS (foot r rm fs) σ σ' ∧ ∀ x ∈ foot r rm fs', x ∈ foot r rm fs ∨ σ.objs.length ≤ x
theorem Next.refl {σ : St} {r rm : Nat} {d : Dk} {fs : List Ent} (h : DiskAt σ r d rm fs) : Next σ r rm fs σ d := ⟨fs, h, KS.refl _ _, fun x hx => .inl hx⟩
theorem Next.trans {σ σ1 σ2 : St} {r rm : Nat} {d : Dk} {fs fs1 : List Ent} (hk : KS (foot r rm fs) σ σ1) (hs : ∀ x ∈ foot r rm fs1, x ∈ foot r rm fs ∨ σ.objs.length ≤ x) (h : Next σ1 r rm fs1 σ2 d) : Next σ r rm fs σ2 d := by
  obtain ⟨fs', h1, h2, h3⟩ := h
  refine ⟨fs', h1, hk.trans h2 hs, fun x hx => ?_⟩
  have := hk.le
  rcases h3 x hx with h | h
  · exact hs x h
  · exact .inr (by omega)
theorem Has.ids {σ : St} {r rm : Nat} {d : Dk} {fs a b : List Ent} {p : Ent} {n : List UInt8} (h : DiskAt σ r d rm fs) (hA : Has d fs a b p n) : FAt σ.objs p ∧ p.2.ids.Nodup ∧ ∀ x ∈ p.2.ids, x < σ.objs.length := by
  have hp : p ∈ fs := by rw [hA.e]; simp
  have hN := h.nd
  unfold foot at hN
  rw [List.nodup_cons, List.nodup_cons, hA.e, flat_mid, List.nodup_append, List.nodup_append] at hN
  refine ⟨h.hf p hp, hN.2.2.2.1.1, fun x hx => h.lt x ?_⟩
  simp only [foot, List.mem_cons, List.mem_flatMap]
  exact .inr (.inr ⟨p, hp, hx⟩)
/-- A file's rows change: the disk. -/
theorem DiskAt.upd {σ σa : St} {r rm : Nat} {d : Dk} {fs a b : List Ent} {p : Ent} {n : List UInt8} {s' w' : V} {qs qw : Option Nat} {f' : Fl} (h : DiskAt σ r d rm fs) (hok : d.Ok) (hA : Has d fs a b p n) (hk : KS (p.2.rs.toList ++ p.2.rw.toList) σ σa)
    (hs : rowOf σa.objs s' = some (qs, f'.safe.map byteV)) (hw : rowOf σa.objs w' = some (qw, f'.wait.map byteV)) (hq : ∀ x ∈ qs.toList ++ qw.toList, x ∈ p.2.rs.toList ++ p.2.rw.toList ∨ σ.objs.length ≤ x) (hqn : (qs.toList ++ qw.toList).Nodup) (hn : f'.name = n) :
    Next σ r rm fs ⟨σa.objs.set p.2.rf (.cells [s', w']), σa.toks⟩ { d with files := putF f' d.files } ∧ σa.objs[p.2.rf]? = some (.cells [p.2.s, p.2.w]) := by
  obtain ⟨g1, g2, g3⟩ := hA.ids h
  obtain ⟨p', e1, e2, e3, e4, e5, e6, e7⟩ := g1.upd hk g2 g3 hs hw hq hqn
  obtain ⟨i1, i2, i3⟩ := h.change hok hA e4 e3 e2 (by rw [e1, hn]) e5 e6 (d2 := { d with files := putF f' d.files }) (by rw [e1])
  exact ⟨⟨_, i1, i2, i3⟩, e7⟩
/-! ### Rightness -/
theorem Dk.Ok.head {d d2 : Dk} (h : d.Ok) (hf : d2.files = d.files) (ha : (d2.armed : Int) ≤ 9223372036854775807) (hr : InI64 d2.room) (hk : InI64 d2.keep) : d2.Ok := ⟨by rw [hf]; exact h.rise, by rw [hf]; exact h.nm, by rw [hf]; exact h.few, by rw [hf]; exact h.sm, ha, hr, hk⟩
theorem Dk.Ok.raw {d : Dk} (h : d.Ok) : (rawD d).2.Ok := by
  have := h.arm
  unfold rawD
  split
  · exact h.head rfl h.arm h.rm h.kp
  · exact h.head rfl (by simp only; omega) h.rm h.kp
theorem Dk.Ok.off {d : Dk} (h : d.Ok) (k : Int) : (offD k d).Ok := by
  unfold offD
  split
  · refine ⟨?_, fun f hf => ?_, by simp only [List.length_map]; exact h.few, fun f hf => ?_, by simp, h.rm, h.kp⟩
    · simp only [List.pairwise_map]
      exact h.rise
    · obtain ⟨g, hg, rfl⟩ := List.mem_map.1 hf
      exact h.nm g hg
    · obtain ⟨g, hg, rfl⟩ := List.mem_map.1 hf
      have := h.sm g hg
      simp only [Fl.len, offF, List.length_append, List.length_take, List.length_nil] at this ⊢
      omega
  · exact h
theorem Dk.Ok.put {d : Dk} (h : d.Ok) {x : Fl} (hn : namedD x.name = true) (hs : x.len ≤ 1048576) (hl : (getF d.files x.name).isNone = true → d.files.length < 16) : ({ d with files := putF x d.files } : Dk).Ok := by
  refine ⟨rise_putF h.rise, fun f hf => ?_, ?_, fun f hf => ?_, h.arm, h.rm, h.kp⟩
  · rcases mem_putF.1 hf with rfl | ⟨hf, _⟩
    · exact hn
    · exact h.nm f hf
  · simp only
    rw [len_putF h.rise]
    have := h.few
    split
    · rename_i h1
      have := hl h1
      omega
    · exact h.few
  · rcases mem_putF.1 hf with rfl | ⟨hf, _⟩
    · exact hs
    · exact h.sm f hf
theorem Dk.Ok.drop {d : Dk} (h : d.Ok) (n : List UInt8) : ({ d with files := dropF n d.files } : Dk).Ok := by
  refine ⟨rise_dropF h.rise, fun f hf => h.nm f (mem_dropF.1 hf).1, ?_, fun f hf => h.sm f (mem_dropF.1 hf).1, h.arm, h.rm, h.kp⟩
  exact Nat.le_trans (List.length_filter_le ..) h.few
theorem Has.files {d d2 : Dk} {fs a b : List Ent} {p : Ent} {n : List UInt8} (hA : Has d fs a b p n) (h : d2.files = d.files) : Has d2 fs a b p n := ⟨hA.e, hA.nm, by rw [h]; exact hA.g, hA.a, hA.b⟩
theorem Dk.Ok.get {d : Dk} (h : d.Ok) {n : List UInt8} {f : Fl} (hg : getF d.files n = some f) : f ∈ d.files ∧ f.name = n ∧ namedD n = true ∧ f.len ≤ 1048576 := by
  obtain ⟨h1, h2⟩ := getF_some hg
  exact ⟨h1, h2, by rw [← h2]; exact h.nm f h1, h.sm f h1⟩
end Go.Proofs.YtnegdinonfjdfaaDoor.Q

/- Append. -/
set_option linter.unusedVariables false
set_option linter.unusedSimpArgs false
set_option maxRecDepth 100000
namespace Go.Proofs.YtnegdinonfjdfaaDoor.Q
open Go Go.RowKit Go.Proofs
theorem RB.ks {σ σ' : St} {v : V} {bs : List UInt8} {S : List Nat} (h : RB σ v bs) (hk : KS S σ σ') (hs : ∀ q ∈ S, ∀ cs, σ.objs[q]? ≠ some (.cells cs)) : RB σ' v bs := by
  rcases h with h | ⟨q, off, cs, e1, e2, e3⟩
  · exact .inl h
  · exact .inr ⟨q, off, cs, e1, hk.ko q _ (fun hq => hs q hq cs e2) e2, e3⟩
end Go.Proofs.YtnegdinonfjdfaaDoor.Q

/- Sync, Truncate, Rename, Remove. -/
set_option linter.unusedVariables false
set_option linter.unusedSimpArgs false
set_option maxRecDepth 100000
namespace Go.Proofs.YtnegdinonfjdfaaDoor.Q
open Go Go.RowKit Go.Proofs
theorem Has.facts {σ : St} {r rm : Nat} {d : Dk} {fs a b : List Ent} {p : Ent} {n : List UInt8} (h : DiskAt σ r d rm fs) (hok : d.Ok) (hA : Has d fs a b p n) :
    vload Tryd.prog σ.objs 22 (.optr p.2.rf 0) = some p.2.s ∧ vload Tryd.prog σ.objs 22 (.optr p.2.rf 1) = some p.2.w ∧ vlen Tryd.prog 22 p.2.s = some (.int .i64 (p.1.safe.length : Nat)) ∧ vlen Tryd.prog 22 p.2.w = some (.int .i64 (p.1.wait.length : Nat)) ∧
      p.1.safe.length + p.1.wait.length ≤ 1048576 ∧ namedD n = true ∧ (p.2.rs.toList ++ p.2.rw.toList).Nodup ∧ p.2.rf ∉ p.2.rs.toList ++ p.2.rw.toList := by
  obtain ⟨g1, g2, g3⟩ := hA.ids h
  have hgt := hok.get hA.g
  simp only [FO.ids, List.nodup_cons] at g2
  exact ⟨by rw [vload_obj g1.ob pGB]; rfl, by rw [vload_obj g1.ob pGB]; rfl, by rw [rowOf_len g1.s, List.length_map], by rw [rowOf_len g1.w, List.length_map], hgt.2.2.2, hgt.2.2.1, g2.2, g2.1⟩
/-! ### Files leave the map, and come into it -/
theorem DiskAt.gone {σ : St} {r rm : Nat} {d : Dk} {fs a b : List Ent} {p : Ent} {n : List UInt8} (h : DiskAt σ r d rm fs) (hok : d.Ok) (hA : Has d fs a b p n) :
    ∃ σ', vmapDel Tryd.prog σ 68 (.omap rm) (.str n) = some σ' ∧ DiskAt σ' r { d with files := dropF n d.files } rm (a ++ b) ∧ KS [rm] σ σ' ∧ FAt σ'.objs p ∧ p.2.ids.Nodup ∧ (∀ x ∈ p.2.ids, x ∈ foot r rm fs ∧ x ∉ foot r rm (a ++ b)) ∧ ∀ x ∈ foot r rm (a ++ b), x ∈ foot r rm fs := by
  have hlt := h.lt
  have hN := h.nd
  obtain ⟨g1, g2, g3⟩ := hA.ids h
  have hfs := hA.e
  subst hfs
  have hpm := h.pm
  unfold foot at hN
  rw [List.nodup_cons, List.nodup_cons, flat_mid] at hN
  obtain ⟨n1, n2, n3⟩ := hN
  have hml := hlt rm (by simp [foot])
  have hv := find_yes (a := a) (b := b) (p := p) (by rw [hA.nm]; exact hA.a) 0
  rw [hA.nm] at hv
  have hne : ∀ x, x ∈ (a ++ p :: b).flatMap (fun p => p.2.ids) → rm ≠ x := fun x hx e => n2 (by rw [flat_mid] at hx; rw [e]; exact hx)
  have hkeep : ∀ q ∈ a ++ p :: b, FAt (σ.objs.set rm (.mp ((a ++ b).map fent))) q := fun q hq => (h.hf q hq).frame fun x hx o ho => by
    rw [List.getElem?_set_ne (hne x (List.mem_flatMap.2 ⟨q, hq, hx⟩))]; exact ho
  have hids : ∀ x ∈ foot r rm (a ++ b), x ∈ foot r rm (a ++ p :: b) := by
    intro x hx
    simp only [foot, List.mem_cons, List.flatMap_append, List.flatMap_cons, List.mem_append] at hx ⊢
    rcases hx with h | h | h | h
    · exact .inl h
    · exact .inr (.inl h)
    · exact .inr (.inr (.inl h))
    · exact .inr (.inr (.inr (.inr h)))
  have hsub : ((a ++ b).flatMap fun p => p.2.ids).Sublist ((a ++ p :: b).flatMap fun p => p.2.ids) := by
    rw [flat_mid, List.flatMap_append]
    exact (List.Sublist.refl _).append (List.sublist_append_right ..)
  refine ⟨⟨σ.objs.set rm (.mp ((a ++ b).map fent)), σ.toks⟩, ?_, ⟨?_, ?_, fun q hq => hkeep q ?_, ?_, ?_⟩, KS.set (.inl (by simp)) _, hkeep p (by simp), g2, fun x hx => ⟨?_, fun hx2 => ?_⟩, hids⟩
  · simp only [vmapDel, pTM, h.hm, keyD, hv]
    congr 3
    rw [List.map_append, List.map_cons, Nat.zero_add, ← List.length_map (f := fent), List.eraseIdx_append_of_length_le (Nat.le_refl _), Nat.sub_self, List.map_append]
    rfl
  · simp only
    rw [List.getElem?_set_ne (fun e => n1 (by rw [e]; exact List.mem_cons_self ..))]
    exact h.hd
  · simp only
    rw [List.getElem?_set_self hml]
  · rcases List.mem_append.1 hq with h | h <;> simp [h]
  · have := h.nd
    unfold foot at this ⊢
    exact (List.Sublist.cons_cons _ (List.Sublist.cons_cons _ hsub)).nodup this
  · simp only [List.map_append, List.map_cons] at hpm ⊢
    have e : (a.map (·.1) ++ b.map (·.1)) = dropF n (a.map (·.1) ++ p.1 :: b.map (·.1)) := by
      unfold dropF
      rw [List.filter_append, List.filter_cons]
      simp only [hA.nm, ne_eq, not_true_eq_false, decide_false, Bool.false_eq_true, ↓reduceIte]
      rw [List.filter_eq_self.2, List.filter_eq_self.2]
      · intro f hf
        obtain ⟨q, hq, rfl⟩ := List.mem_map.1 hf
        simp [hA.b q hq]
      · intro f hf
        obtain ⟨q, hq, rfl⟩ := List.mem_map.1 hf
        simp [hA.a q hq]
    rw [e]
    exact hpm.filter _
  · simp only [foot, List.mem_cons, List.mem_flatMap]
    exact .inr (.inr ⟨p, by simp, hx⟩)
  · simp only [foot, List.mem_cons, List.flatMap_append, List.mem_append] at hx2
    rw [List.nodup_append, List.nodup_append] at n3
    rcases hx2 with h | h | h | h
    · subst h; exact n1 (List.mem_cons_of_mem _ (by simp [hx]))
    · subst h; exact n2 (by simp [hx])
    · exact n3.2.2 x h x (List.mem_append_left _ hx) rfl
    · exact n3.2.1.2.2 x hx x h rfl
theorem putF_new {l : List Fl} {x : Fl} (hg : getF l x.name = none) : (putF x l).Perm (x :: l) := by
  unfold putF
  refine (List.perm_middle).trans (.cons _ ?_)
  have e : (l.filter fun f => decide (x.name < f.name)) = l.filter fun f => !decide (f.name < x.name) := by
    refine List.filter_congr fun f hf => ?_
    have hne := getF_none hg f hf
    rcases lt_or hne with h | h
    · have : ¬ x.name < f.name := fun h2 => lt_irrefl' _ (lt_trans' h h2)
      simp [h, this]
    · have : ¬ f.name < x.name := fun h2 => lt_irrefl' _ (lt_trans' h h2)
      simp [h, this]
  rw [e]
  exact List.filter_append_perm _ _
theorem DiskAt.come {σ : St} {r rm : Nat} {d : Dk} {fs : List Ent} {p : Ent} (h : DiskAt σ r d rm fs) (hok : d.Ok) (hF : FAt σ.objs p) (hnd : p.2.ids.Nodup) (hdj : ∀ x ∈ p.2.ids, x ∉ foot r rm fs) :
    ∃ σ' fs', vmapSet Tryd.prog σ 68 (.omap rm) (.str p.1.name) (.optr p.2.rf 0) = some σ' ∧ DiskAt σ' r { d with files := putF p.1 d.files } rm fs' ∧ KS [rm] σ σ' ∧ ∀ x ∈ foot r rm fs', x ∈ foot r rm fs ∨ x ∈ p.2.ids := by
  have hlt := h.lt
  have hN := h.nd
  have hN0 := hN
  have hml := hlt rm (by simp [foot])
  unfold foot at hN
  rw [List.nodup_cons, List.nodup_cons] at hN
  obtain ⟨n1, n2, n3⟩ := hN
  have hkeep : ∀ q ∈ fs, ∀ o, FAt (σ.objs.set rm o) q := fun q hq o => (h.hf q hq).frame fun x hx o ho => by
    rw [List.getElem?_set_ne (fun e => n2 (by rw [e]; exact List.mem_flatMap.2 ⟨q, hq, hx⟩))]; exact ho
  have hkp : ∀ o, FAt (σ.objs.set rm o) p := fun o => hF.frame fun x hx o ho => by
    rw [List.getElem?_set_ne (fun e => hdj x hx (by rw [← e]; simp [foot]))]; exact ho
  have hrm : rm ≠ r := fun e => n1 (by rw [← e]; exact List.mem_cons_self ..)
  cases hg : getF d.files p.1.name with
  | none =>
    have hno := h.get_no hg
    refine ⟨⟨σ.objs.set rm (.mp ((fs ++ [p]).map fent)), σ.toks⟩, fs ++ [p], ?_, ⟨?_, ?_, ?_, ?_, ?_⟩, KS.set (.inl (by simp)) _, ?_⟩
    · simp only [vmapSet, pTM, h.hm, keyD, find_no hno]
      rw [List.map_append]
      rfl
    · simp only; rw [List.getElem?_set_ne hrm]; exact h.hd
    · simp only; rw [List.getElem?_set_self hml]
    · intro q hq
      rcases List.mem_append.1 hq with hq | hq
      · exact hkeep q hq _
      · rw [List.mem_singleton] at hq; subst hq; exact hkp _
    · have e : foot r rm (fs ++ [p]) = foot r rm fs ++ p.2.ids := by simp [foot]
      rw [e, List.nodup_append]
      exact ⟨hN0, hnd, fun x hx y hy e => hdj y hy (by rw [← e]; exact hx)⟩
    · simp only [List.map_append, List.map_cons, List.map_nil]
      exact (List.perm_append_singleton ..).trans ((h.pm.cons _).trans (putF_new hg).symm)
    · intro x hx
      have e : foot r rm (fs ++ [p]) = foot r rm fs ++ p.2.ids := by simp [foot]
      rw [e, List.mem_append] at hx
      exact hx
  | some f =>
    obtain ⟨a, q, b, hA⟩ := h.get_yes hok hg
    have hfs := hA.e
    subst hfs
    have hpm := h.pm
    have hv := find_yes (a := a) (b := b) (p := q) (by rw [hA.nm]; exact hA.a) 0
    rw [hA.nm] at hv
    have hmem : ∀ x ∈ foot r rm (a ++ p :: b), x ∈ foot r rm (a ++ q :: b) ∨ x ∈ p.2.ids := by
      intro x hx
      simp only [foot, List.mem_cons, List.flatMap_append, List.flatMap_cons, List.mem_append] at hx ⊢
      rcases hx with h | h | h | h | h
      · exact .inl (.inl h)
      · exact .inl (.inr (.inl h))
      · exact .inl (.inr (.inr (.inl h)))
      · exact .inr h
      · exact .inl (.inr (.inr (.inr (.inr h))))
    refine ⟨⟨σ.objs.set rm (.mp ((a ++ p :: b).map fent)), σ.toks⟩, a ++ p :: b, ?_, ⟨?_, ?_, ?_, ?_, ?_⟩, KS.set (.inl (by simp)) _, hmem⟩
    · simp only [vmapSet, pTM, h.hm, keyD, hv]
      congr 3
      rw [List.map_append, List.map_cons, Nat.zero_add, ← List.length_map (f := fent), List.set_append_right _ _ (Nat.le_refl _), Nat.sub_self, List.map_append]
      rfl
    · simp only; rw [List.getElem?_set_ne hrm]; exact h.hd
    · simp only; rw [List.getElem?_set_self hml]
    · intro x hx
      simp only [List.mem_append, List.mem_cons] at hx
      rcases hx with hx | rfl | hx
      · exact hkeep x (by simp [hx]) _
      · exact hkp _
      · exact hkeep x (by simp [hx]) _
    · unfold foot at hN0 ⊢
      rw [flat_mid] at hN0 ⊢
      have hdj2 : ∀ x ∈ p.2.ids, x ∉ r :: rm :: ((a.flatMap fun p => p.2.ids) ++ (q.2.ids ++ b.flatMap fun p => p.2.ids)) := fun x hx hx2 => hdj x hx (by unfold foot; rw [flat_mid]; exact hx2)
      rw [← List.cons_append, ← List.cons_append] at hN0 ⊢
      rw [List.nodup_append, List.nodup_append] at hN0 ⊢
      obtain ⟨m1, ⟨m2, m3, m4⟩, m5⟩ := hN0
      refine ⟨m1, ⟨hnd, m3, fun x hx y hy e => hdj2 x hx (by rw [e]; simp [hy])⟩, fun x hx y hy e => ?_⟩
      rcases List.mem_append.1 hy with hy | hy
      · refine hdj2 y hy ?_
        rw [← e]
        rw [← List.cons_append, ← List.cons_append]
        exact List.mem_append_left _ hx
      · exact m5 x hx y (List.mem_append_right _ hy) e
    · simp only [List.map_append, List.map_cons] at hpm ⊢
      exact putF_perm hok.rise hpm hA.nm.symm
end Go.Proofs.YtnegdinonfjdfaaDoor.Q

/- Remove, Rename, and the small calls. -/
set_option linter.unusedVariables false
set_option linter.unusedSimpArgs false
set_option maxRecDepth 100000
namespace Go.Proofs.YtnegdinonfjdfaaDoor.Q
open Go Go.RowKit Go.Proofs
end Go.Proofs.YtnegdinonfjdfaaDoor.Q

/- Concat, Read and Names. -/
set_option linter.unusedVariables false
set_option linter.unusedSimpArgs false
set_option maxRecDepth 100000
namespace Go.Proofs.YtnegdinonfjdfaaDoor.Q
open Go Go.RowKit Go.Proofs
theorem TBB : Tryd.prog.underlying 37 = some (.slice 22) := by kernel_rfl
end Go.Proofs.YtnegdinonfjdfaaDoor.Q

/- Names, and the small calls. -/
set_option linter.unusedVariables false
set_option linter.unusedSimpArgs false
set_option maxRecDepth 100000
namespace Go.Proofs.YtnegdinonfjdfaaDoor.Q
open Go Go.RowKit Go.Proofs
/-! ### The small calls -/
def newD (n : Int) : Dk := ⟨[], n, true, 0, 0, 0⟩
end Go.Proofs.YtnegdinonfjdfaaDoor.Q

/- Rows, written or not. -/
set_option linter.unusedVariables false
set_option linter.unusedSimpArgs false
set_option maxRecDepth 100000
namespace Go.Proofs.YtnegdinonfjdfaaDoor.Q
open Go Go.RowKit Go.Proofs
/-- w is a row of n elements of k cells each; it may be a part of an object. -/
def RowS (σ : St) (k : Nat) (w : V) (cs : List V) (n : Nat) : Prop := RowV k w cs n ∨ (cs.length = n * k ∧ ∃ r off c, w = .hslice r off k n ∧ σ.objs[r]? = some (.cells c) ∧ off + n * k ≤ c.length ∧ (c.drop off).take (n * k) = cs)
section
variable {σ : St} {k n : Nat} {w : V} {cs : List V}
theorem RowS.keep {σ' : St} (h : RowS σ k w cs n) (hk : Keep σ σ') : RowS σ' k w cs n := by
  rcases h with h | ⟨h0, r, off, c, h1, h2, h3⟩
  · exact .inl h
  · exact .inr ⟨h0, r, off, c, h1, hk.1 _ _ h2, h3⟩
theorem RowS.size (h : RowS σ k w cs n) : cs.length = n * k := by
  rcases h with h | ⟨h0, _⟩
  · exact h.1
  · exact h0
theorem RowS.one (h : RowS σ k w cs n) : one w = true := by
  rcases h with h | ⟨h0, r, off, c, rfl, _⟩
  · exact h.one
  · rfl
theorem RowS.len (h : RowS σ k w cs n) {t e : TypeId} (ht : Tryd.prog.underlying t = some (.slice e)) : vlen Tryd.prog t w = some (.int .i64 (n : Nat)) := by
  rcases h with h | ⟨h0, r, off, c, rfl, _⟩
  · exact h.len ht
  · simp [vlen, ht]
/-- The place of an element: what may be read there. -/
def At (σ : St) (p : V) (c : List V) : Prop := (∃ cs o, p = .eptr cs o ∧ o + c.length ≤ cs.length ∧ (cs.drop o).take c.length = c) ∨ ∃ r o cs, p = .optr r o ∧ σ.objs[r]? = some (.cells cs) ∧ o + c.length ≤ cs.length ∧ (cs.drop o).take c.length = c
theorem RowS.at (h : RowS σ k w cs n) {t e : TypeId} (ht : Tryd.prog.underlying t = some (.slice e)) (hs : sizeT Tryd.prog e = some k) (hk : 0 < k) {i : Nat} (hi : i < n) {kk : IntKind} :
    ∃ p, vindexAddr Tryd.prog t w (.int kk (i : Int)) = some p ∧ At σ p ((cs.drop (i * k)).take k) := by
  have hsz := h.size
  have hle : i * k + k ≤ n * k := by
    have : (i + 1) * k ≤ n * k := Nat.mul_le_mul_right k hi
    rwa [Nat.add_mul, Nat.one_mul] at this
  have hpl : ((cs.drop (i * k)).take k).length = k := by rw [List.length_take, List.length_drop]; omega
  rcases h with h | ⟨h0, r, off, c, rfl, h2, h3, h4⟩
  · refine ⟨_, RowV.addr h ht hs hk (kk := kk) (i := (i : Int)) (by omega) (by omega), .inl ⟨cs, i * k, by rw [Int.toNat_natCast], by rw [hpl]; omega, by rw [hpl]⟩⟩
  · have hi' : (i : Int) < n := by omega
    refine ⟨.optr r (off + i * k), by simp [vindexAddr, ht, hs, hi'], .inr ⟨r, _, c, rfl, h2, by rw [hpl]; omega, ?_⟩⟩
    rw [hpl, ← h4, List.drop_take, List.drop_drop, List.take_take]
    congr 1
    omega
theorem At.keep {σ' : St} {p : V} {c : List V} (h : At σ p c) (hk : Keep σ σ') : At σ' p c := by
  rcases h with h | ⟨r, o, cs, h1, h2, h3⟩
  · exact .inl h
  · exact .inr ⟨r, o, cs, h1, hk.1 _ _ h2, h3⟩
theorem At.load {p : V} {c : List V} (h : At σ p c) {e : TypeId} (ha : isAggT Tryd.prog e = some true) (hs : sizeT Tryd.prog e = some c.length) : vload Tryd.prog σ.objs e p = some (.agg c) := by
  rcases h with ⟨cs, o, rfl, h1, h2⟩ | ⟨r, o, cs, rfl, hr, h1, h2⟩
  · simp only [vload, vcellsAt, vpart, ha, hs, if_pos h1, h2]
  · simp only [vload, vcellsAt, hr, vpart, ha, hs, if_pos h1, h2]
/-- A cell of what lies there. -/
theorem At.part {p : V} {c : List V} (h : At σ p c) {j m : Nat} (hj : j + m ≤ c.length) : ∃ p', (∀ (e : TypeId) (f : Nat), (∀ q o, vfieldAddr Tryd.prog e (.optr q o) f = some (.optr q (o + j))) → (∀ cs o, vfieldAddr Tryd.prog e (.eptr cs o) f = some (.eptr cs (o + j))) → vfieldAddr Tryd.prog e p f = some p') ∧ At σ p' ((c.drop j).take m) := by
  have hpl : ((c.drop j).take m).length = m := by rw [List.length_take, List.length_drop]; omega
  have cut : ∀ (cs : List V) (o : Nat), o + c.length ≤ cs.length → (cs.drop o).take c.length = c → (cs.drop (o + j)).take m = (c.drop j).take m := by
    intro cs o h1 h2
    have h3 : c.drop j = ((cs.drop o).take c.length).drop j := by rw [h2]
    rw [h3, List.drop_take, List.drop_drop, List.take_take]
    congr 1
    omega
  rcases h with ⟨cs, o, rfl, h1, h2⟩ | ⟨r, o, cs, rfl, hr, h1, h2⟩
  · exact ⟨.eptr cs (o + j), fun e f _ h => h cs o, .inl ⟨cs, o + j, rfl, by rw [hpl]; omega, by rw [hpl]; exact cut cs o h1 h2⟩⟩
  · exact ⟨.optr r (o + j), fun e f h _ => h r o, .inr ⟨r, o + j, cs, rfl, hr, by rw [hpl]; omega, by rw [hpl]; exact cut cs o h1 h2⟩⟩
end
end Go.Proofs.YtnegdinonfjdfaaDoor.Q

/- The disk's plain facts, for other laws. -/
set_option linter.unusedVariables false
set_option linter.unusedSimpArgs false
set_option maxRecDepth 100000
namespace Go.Proofs.YtnegdinonfjdfaaDoor.Q
open Go Go.RowKit Go.Proofs
theorem KS.nils {S : List Nat} {σ σ' : St} (h : KS [] σ σ') : KS S σ σ' := h.mono fun x hx => by cases hx
theorem DiskAt.objs {σ σ' : St} {r rm : Nat} {d : Dk} {fs : List Ent} (h : DiskAt σ r d rm fs) (e : σ'.objs = σ.objs) : DiskAt σ' r d rm fs := ⟨by rw [e]; exact h.hd, by rw [e]; exact h.hm, by rw [e]; exact h.hf, h.nd, h.pm⟩
theorem OwnV.toks {e m : Nat} {σ σ' : St} {v : V} {bs : List UInt8} (h : OwnV e m σ v bs) (hk : ∀ k, tokLive σ.toks k = true → tokLive σ'.toks k = true) : OwnV e m σ' v bs := (h.toR.keep hk).toV
def Free (q : Option Nat) (F : List Nat) : Prop := ∀ x ∈ q.toList, x ∉ F
theorem Free.step {q : Option Nat} {F F' : List Nat} {n : Nat} (h : Free q F) (hl : ∀ x ∈ q.toList, x < n) (hF : ∀ x ∈ F', x ∈ F ∨ n ≤ x) : Free q F' := fun x hx hx2 => by
  rcases hF x hx2 with h1 | h1
  · exact h x hx h1
  · have := hl x hx; omega
theorem Free.low {q : Option Nat} {F : List Nat} {n : Nat} (hl : ∀ x ∈ q.toList, x < n) (hF : ∀ x ∈ F, n ≤ x) : Free q F := fun x hx hx2 => by
  have := hl x hx; have := hF x hx2; omega
theorem Free.high {q : Option Nat} {F : List Nat} {n : Nat} (hl : ∀ x ∈ q.toList, n ≤ x) (hF : ∀ x ∈ F, x < n) : Free q F := fun x hx hx2 => by
  have := hl x hx; have := hF x hx2; omega
abbrev BV := V × List UInt8
theorem SBs : sizeT Tryd.prog 22 = some 1 := pSB
/-- A row of rows of bytes. -/
def PtsV (w : V) (l : List BV) : Prop := RowV 1 w (l.map Prod.fst) l.length
theorem PtsV.len {v : V} {l : List BV} (h : PtsV v l) : vlen Tryd.prog 37 v = some (.int .i64 l.length) := RowV.len h TBB
theorem PtsV.addr {v : V} {l : List BV} (h : PtsV v l) {i : Nat} (hi : i < l.length) : vindexAddr Tryd.prog 37 v (.int .i64 i) = some (.eptr (l.map Prod.fst) i) := by
  have := RowV.addr h TBB SBs (by omega) (kk := .i64) (i := i) (by omega) (by omega)
  rwa [Int.toNat_natCast, Nat.mul_one] at this
theorem PtsV.load {l : List BV} {i : Nat} (hi : i < l.length) {objs : List Ob} : vload Tryd.prog objs 22 (.eptr (l.map Prod.fst) i) = some l[i].1 := by
  simp [vload, vcellsAt, vpart, pGB, hi]
end Go.Proofs.YtnegdinonfjdfaaDoor.Q

/- The sum, and names with numbers: of the program and of the document. -/
set_option linter.unusedVariables false
set_option linter.unusedSimpArgs false
set_option maxRecDepth 100000
namespace Go.Proofs.YtnegdinonfjdfaaDoor.Q
open Go Go.RowKit Go.Proofs
/-! ### The sum -/
theorem crcadd_does {σ : St} {v : V} {bs : List UInt8} (r : BitVec 32) (h : BtsV v bs) (hl : bs.length ≤ 1000000000) : Does Tryd.prog prims 59 [.int .u32 ((r.toNat : Nat) : Int), v] σ (.ret (uV (crcAdd r bs))) σ := by
  refine Does.prim (by kernel_rfl) ?_
  simp only [prims]
  rw [if_neg (by decide +kernel), if_neg (by decide +kernel), if_neg (by decide +kernel), if_pos trivial]
  simp only [crcP', bts_vbytesC h, ofInt_toNat]
  rw [if_pos ⟨trivial, hl⟩]
theorem crcsum_does {σ : St} {v : V} {bs : List UInt8} (h : BtsV v bs) (hl : bs.length ≤ 1000000000) : Does Tryd.prog prims 41 [v] σ (.ret (uV (crcSum bs))) σ := by
  apply k41_is.ret (by simp)
  simp only [k41_a, WK, vop, evAll, evOpt, evParts, vbuiltin, vun, vextract, Nat.reduceLT, Nat.reduceEqDiff, ↓reduceIte, reduceCtorEq, Nat.reduceAdd, Int.reduceLT, Int.reduceNeg, valloc_std, noSB, vhot, List.getD_cons_zero]
  refine KD.ret (crcadd_does 0#32 h hl) ?_
  simp only [k41_a, WK, vop, evAll, evOpt, evParts, vbuiltin, vun, vextract, Nat.reduceLT, Nat.reduceEqDiff, ↓reduceIte, reduceCtorEq, Nat.reduceAdd, Int.reduceLT, Int.reduceNeg, valloc_std, noSB, vhot]
  rfl
def steps : Nat → BitVec 32 → BitVec 32
  | 0, r => r
  | k + 1, r => step1 (steps k r)
theorem steps8 (r : BitVec 32) : steps 8 r = nib (nib r) := by
  simp only [steps]
  rw [nib_steps, nib_steps]
theorem bit0 (q : BitVec 32) : (((q &&& 1#32).toNat : Nat) : Int) = 1 ↔ q.getLsbD 0 = true := by
  have h : (q &&& 1#32).toNat = q.toNat % 2 := by
    rw [BitVec.toNat_and]
    exact Nat.and_one_is_mod q.toNat
  have h2 : q.getLsbD 0 = decide (q.toNat % 2 = 1) := by
    rw [BitVec.getLsbD, Nat.testBit_zero]
  rw [h, h2]
  simp
  omega
theorem radd_does {σ : St} {v : V} {bs : List UInt8} (r : BitVec 32) (h : BtsV v bs) (hl : bs.length ≤ 1000000000) : Does Tryd.prog prims 61 [.int .u32 ((r.toNat : Nat) : Int), v] σ (.ret (uV (crcAdd r bs))) σ := by
  apply k61_is.ret (by simp)
  have hlen := h.len pTB
  simp only [k61_a, WK, vop, evAll, evOpt, evParts, vbuiltin, vun, vextract, Nat.reduceLT, Nat.reduceEqDiff, ↓reduceIte, reduceCtorEq, Nat.reduceAdd, Int.reduceLT, Int.reduceNeg, valloc_std, noSB, vhot, List.getD_cons_zero, List.getD_cons_succ, bit_notW]
  refine Ev.loopF (fun (i : Nat) e s => e 6 = .int .i64 (i : Nat) ∧ i ≤ bs.length ∧ e 5 = .int .u32 (((runC (~~~ r) (bs.take i)).toNat : Nat) : Int) ∧ s = σ) (fun i => bs.length - i) 0 ?_ ?_
  · exact ⟨by simp [upd_some], Nat.zero_le _, by simp [upd_some, runC], rfl⟩
  rintro i e s ⟨h6, hi, h5, rfl⟩ hf
  have g1 : e 1 = v := (hf 1 (by decide)).trans (by simp [upd_some])
  clear hf
  by_cases hlt : i < bs.length
  · have hlt' : (i : Int) < (bs.length : Nat) := by omega
    have hwi : IntKind.i64.wrap ((i : Int) + 1) = ((i + 1 : Nat) : Int) := by rw [wrap_i64 (by omega) (by omega)]; omega
    have hat : vindexAddr Tryd.prog 22 v (.int .i64 (i : Int)) = some (.eptr (bs.map byteV) i) := by
      have := h.addr pTB pS1 (k := .i64) (n := (i : Int)) (by omega) hlt'
      rwa [Int.toNat_natCast] at this
    have hld : ∀ objs, vload Tryd.prog objs 5 (.eptr (bs.map byteV) i) = some (.int .u8 ((bs[i].toNat : Nat) : Int)) := fun objs => by
      simp [vload, vcellsAt, vpart, pG5, hlt, byteV]
    have hcv : vconv Tryd.prog 5 61 (.int .u8 ((bs[i].toNat : Nat) : Int)) = some (.int .u32 (((BitVec.ofNat 32 bs[i].toNat).toNat : Nat) : Int)) := by
      simp only [vconv, pT5, pTU, byte32]
    simp only [k61_a, WK, vop, evAll, evOpt, evParts, vbuiltin, vun, vextract, Nat.reduceLT, Nat.reduceEqDiff, ↓reduceIte, reduceCtorEq, Nat.reduceAdd, Int.reduceLT, Int.reduceNeg, valloc_std, noSB, vhot, h6, g1, h5, hlen, hlt', decide_true, hat, hld, hcv, bit_xor]
    refine Ev.loopF (fun (j : Nat) e2 s2 => e2 7 = .int .i64 (j : Nat) ∧ j ≤ 8 ∧ e2 5 = .int .u32 (((steps j (runC (~~~ r) (bs.take i) ^^^ BitVec.ofNat 32 bs[i].toNat)).toNat : Nat) : Int) ∧ s2 = s) (fun j => 8 - j) 0 ?_ ?_
    · exact ⟨by simp [upd_some], Nat.zero_le _, by simp [upd_some, steps], rfl⟩
    rintro j e2 s2 ⟨m7, hj, m5, rfl⟩ hf2
    have m6 : e2 6 = .int .i64 (i : Nat) := (hf2 6 (by decide)).trans (by simp [upd_some, h6])
    clear hf2
    generalize hq : steps j (runC (~~~ r) (bs.take i) ^^^ BitVec.ofNat 32 bs[i].toNat) = q at m5
    by_cases hjt : j < 8
    · have hjt' : (j : Int) < 8 := by omega
      have hwj : IntKind.i64.wrap ((j : Int) + 1) = ((j + 1 : Nat) : Int) := by rw [wrap_i64 (by omega) (by omega)]; omega
      by_cases hb : q.getLsbD 0 = true
      · have hb' := (bit0 q).2 hb
        have hst : step1 q = (q >>> 1) ^^^ crcP := by unfold step1; rw [if_pos hb]
        simp only [k61_a, WK, vop, evAll, evOpt, evParts, vbuiltin, vun, vextract, Nat.reduceLT, Nat.reduceEqDiff, ↓reduceIte, reduceCtorEq, Nat.reduceAdd, Int.reduceLT, Int.reduceNeg, valloc_std, noSB, vhot, m7, m5, hjt', decide_true, and1, shr1, hb', eq_self, xorP, hwj]
        refine ⟨j + 1, ⟨by simp [upd_some], by omega, ?_⟩, by omega⟩
        simp only [upd_some, Nat.reduceEqDiff, ↓reduceIte, steps, hq, hst, and_true]
      · have hb' : ¬ (((q &&& 1#32).toNat : Nat) : Int) = 1 := fun h => hb ((bit0 q).1 h)
        have hst : step1 q = q >>> 1 := by unfold step1; rw [if_neg hb]; simp
        simp only [k61_a, WK, vop, evAll, evOpt, evParts, vbuiltin, vun, vextract, Nat.reduceLT, Nat.reduceEqDiff, ↓reduceIte, reduceCtorEq, Nat.reduceAdd, Int.reduceLT, Int.reduceNeg, valloc_std, noSB, vhot, m7, m5, hjt', decide_true, decide_false, and1, shr1, hb', hwj]
        refine ⟨j + 1, ⟨by simp [upd_some], by omega, ?_⟩, by omega⟩
        simp only [upd_some, Nat.reduceEqDiff, ↓reduceIte, steps, hq, hst, and_true]
    · have hjt' : ¬ (j : Int) < 8 := by omega
      have hj2 : j = 8 := by omega
      subst hj2
      rw [steps8] at hq
      simp only [k61_a, WK, vop, evAll, evOpt, evParts, vbuiltin, vun, vextract, Nat.reduceLT, Nat.reduceEqDiff, ↓reduceIte, reduceCtorEq, Nat.reduceAdd, Int.reduceLT, Int.reduceNeg, valloc_std, noSB, vhot, m7, m6, hjt', decide_false, hwi]
      refine ⟨i + 1, ⟨by simp [upd_some], by omega, ?_⟩, by omega⟩
      simp only [upd_some, Nat.reduceEqDiff, ↓reduceIte, m5, runC_succ hlt, byteC, hq, and_true]
  · have hlt' : ¬ (i : Int) < (bs.length : Nat) := by omega
    have hil : bs.take i = bs := List.take_of_length_le (by omega)
    rw [hil] at h5
    simp only [k61_a, WK, vop, evAll, evOpt, evParts, vbuiltin, vun, vextract, Nat.reduceLT, Nat.reduceEqDiff, ↓reduceIte, reduceCtorEq, Nat.reduceAdd, Int.reduceLT, Int.reduceNeg, valloc_std, noSB, vhot, h6, g1, h5, hlen, hlt', decide_false, bit_notW]
    rfl
theorem rsum_does {σ : St} {v : V} {bs : List UInt8} (h : BtsV v bs) (hl : bs.length ≤ 1000000000) : Does Tryd.prog prims 44 [v] σ (.ret (uV (crcSum bs))) σ := by
  apply k44_is.ret (by simp)
  simp only [k44_a, WK, vop, evAll, evOpt, evParts, vbuiltin, vun, vextract, Nat.reduceLT, Nat.reduceEqDiff, ↓reduceIte, reduceCtorEq, Nat.reduceAdd, Int.reduceLT, Int.reduceNeg, valloc_std, noSB, vhot, List.getD_cons_zero]
  refine KD.ret (radd_does 0#32 h hl) ?_
  simp only [k44_a, WK, vop, evAll, evOpt, evParts, vbuiltin, vun, vextract, Nat.reduceLT, Nat.reduceEqDiff, ↓reduceIte, reduceCtorEq, Nat.reduceAdd, Int.reduceLT, Int.reduceNeg, valloc_std, noSB, vhot]
  rfl
end Go.Proofs.YtnegdinonfjdfaaDoor.Q

/- Names with numbers: of the program and of the document (printed by snname.py). -/
set_option linter.unusedVariables false
set_option linter.unusedSimpArgs false
set_option maxRecDepth 100000
namespace Go.Proofs.YtnegdinonfjdfaaDoor.Q
open Go Go.RowKit Go.Proofs
theorem sbA {a b : List UInt8} (h : a.length + b.length ≤ 9223372036854775807) : strBin .add a b = some (.str (a ++ b)) := by simp only [strBin]; rw [if_pos h]
theorem vlenS (l : List UInt8) : vlen Tryd.prog 9 (.str l) = some (.int .i64 (l.length : Nat)) := by simp [vlen, T9]
theorem conv_str {v : V} {bs : List UInt8} (h : BtsV v bs) : vconv Tryd.prog 22 9 v = some (.str bs) := by
  have hu : isU8 Tryd.prog 5 = true := by kernel_rfl
  have hb : ∀ l : List UInt8, bytesOf' (l.map byteV) = some l := by
    intro l
    induction l with
    | nil => rfl
    | cons b l ih =>
      have : byteOf1 (byteV b) = some b := by simp [byteOf1, byteV]
      simp only [List.map_cons, bytesOf', this, ih]
  rcases h with ⟨rfl, rfl⟩ | ⟨p, rfl⟩
  · simp [vconv, T22, T9, hu]
  · simp [vconv, T22, T9, hu, hb]
theorem itoa_does {σ : St} {m : Nat} (h : m ≤ 999999999) : Does Tryd.prog prims 43 [.int .i64 (m : Nat)] σ (.ret (.str (digK (wid m) m))) σ := by
  refine Does.prim (by kernel_rfl) ?_
  simp only [prims]
  rw [if_neg (by decide +kernel), if_neg (by decide +kernel), if_neg (by decide +kernel), if_neg (by decide +kernel), if_pos trivial]
  simp only [itoaP, Int.toNat_natCast]
  rw [if_pos (by omega)]
theorem sname_does {σ : St} (n : Int) : Does Tryd.prog prims 14 [.int .i64 n] σ (.ret (.str (nameP 115 0 n))) σ := by
  apply k14_is.ret (by simp)
  have oe : ofVal (Value.string { data := #[] }) = some (.str []) := rfl
  have o0 : ofVal (Value.string { data := #[48] }) = some (.str [48]) := rfl
  have oc : ofVal (Value.string { data := #[115] }) = some (.str [115]) := rfl
  by_cases h0 : n < 0
  · simp only [k14_a, WK, vop, evAll, evOpt, evParts, vbuiltin, vun, vextract, Nat.reduceLT, Nat.reduceEqDiff, ↓reduceIte, reduceCtorEq, Nat.reduceAdd, Int.reduceLT, Int.reduceNeg, valloc_std, noSB, vhot, List.getD_cons_zero, h0, decide_true, oe]
    unfold nameP
    rw [if_pos (.inl h0)]
  by_cases h1 : 999999999 < n
  · simp only [k14_a, WK, vop, evAll, evOpt, evParts, vbuiltin, vun, vextract, Nat.reduceLT, Nat.reduceEqDiff, ↓reduceIte, reduceCtorEq, Nat.reduceAdd, Int.reduceLT, Int.reduceNeg, valloc_std, noSB, vhot, List.getD_cons_zero, h0, h1, decide_true, decide_false, oe]
    unfold nameP
    rw [if_pos (.inr h1)]
  obtain ⟨m, rfl⟩ : ∃ m : Nat, n = (m : Int) := ⟨n.toNat, by omega⟩
  obtain ⟨w1, w2, w3, w4⟩ := wid_ok (n := m) (by omega)
  have hnm : nameP 115 0 (m : Int) = 115 :: digK 9 m := by
    unfold nameP
    rw [if_neg (by omega), Int.toNat_natCast]
  simp only [k14_a, WK, vop, evAll, evOpt, evParts, vbuiltin, vun, vextract, Nat.reduceLT, Nat.reduceEqDiff, ↓reduceIte, reduceCtorEq, Nat.reduceAdd, Int.reduceLT, Int.reduceNeg, valloc_std, noSB, vhot, List.getD_cons_zero, h0, h1, decide_false, oe]
  refine KD.ret (itoa_does (by omega)) ?_
  simp only [k14_a, WK, vop, evAll, evOpt, evParts, vbuiltin, vun, vextract, Nat.reduceLT, Nat.reduceEqDiff, ↓reduceIte, reduceCtorEq, Nat.reduceAdd, Int.reduceLT, Int.reduceNeg, valloc_std, noSB, vhot]
  refine Ev.loopF (fun (k : Nat) e s => e 3 = .str (digK k m) ∧ m < 10 ^ k ∧ k ≤ 9 ∧ s = σ) (fun k => 9 - k) (wid m) ?_ ?_
  · exact ⟨by simp [upd_some], w3, w1, rfl⟩
  rintro k e s ⟨h3, hm, hk, rfl⟩ hf
  clear hf
  have hl := vlenS (digK k m)
  rw [digK_len] at hl
  by_cases hlt : k < 9
  · have hlt' : (k : Int) < 9 := by omega
    have ha : strBin .add [48] (digK k m) = some (.str (digK (k + 1) m)) := by
      rw [sbA (by rw [digK_len]; simp; omega), digK_zero hm]; rfl
    simp only [k14_a, WK, vop, evAll, evOpt, evParts, vbuiltin, vun, vextract, Nat.reduceLT, Nat.reduceEqDiff, ↓reduceIte, reduceCtorEq, Nat.reduceAdd, Int.reduceLT, Int.reduceNeg, valloc_std, noSB, vhot, h3, hl, hlt', decide_true, o0, ha]
    exact ⟨k + 1, ⟨by simp [upd_some], by rw [Nat.pow_succ]; omega, by omega⟩, by omega⟩
  · have hlt' : ¬ (k : Int) < 9 := by omega
    have hk9 : k = 9 := by omega
    subst hk9
    have ha : strBin .add [115] (digK 9 m) = some (.str (115 :: digK 9 m)) := by
      rw [sbA (by rw [digK_len]; simp)]; rfl
    simp only [k14_a, WK, vop, evAll, evOpt, evParts, vbuiltin, vun, vextract, Nat.reduceLT, Nat.reduceEqDiff, ↓reduceIte, reduceCtorEq, Nat.reduceAdd, Int.reduceLT, Int.reduceNeg, valloc_std, noSB, vhot, h3, hl, hlt', decide_false, oc, ha, hnm]
theorem wname_does {σ : St} (n : Int) : Does Tryd.prog prims 32 [.int .i64 n] σ (.ret (.str (nameP 106 1 n))) σ := by
  apply k32_is.ret (by simp)
  have oe : ofVal (Value.string { data := #[] }) = some (.str []) := rfl
  have o0 : ofVal (Value.string { data := #[48] }) = some (.str [48]) := rfl
  have oc : ofVal (Value.string { data := #[106] }) = some (.str [106]) := rfl
  by_cases h0 : n < 1
  · simp only [k32_a, WK, vop, evAll, evOpt, evParts, vbuiltin, vun, vextract, Nat.reduceLT, Nat.reduceEqDiff, ↓reduceIte, reduceCtorEq, Nat.reduceAdd, Int.reduceLT, Int.reduceNeg, valloc_std, noSB, vhot, List.getD_cons_zero, h0, decide_true, oe]
    unfold nameP
    rw [if_pos (.inl h0)]
  by_cases h1 : 999999999 < n
  · simp only [k32_a, WK, vop, evAll, evOpt, evParts, vbuiltin, vun, vextract, Nat.reduceLT, Nat.reduceEqDiff, ↓reduceIte, reduceCtorEq, Nat.reduceAdd, Int.reduceLT, Int.reduceNeg, valloc_std, noSB, vhot, List.getD_cons_zero, h0, h1, decide_true, decide_false, oe]
    unfold nameP
    rw [if_pos (.inr h1)]
  obtain ⟨m, rfl⟩ : ∃ m : Nat, n = (m : Int) := ⟨n.toNat, by omega⟩
  obtain ⟨w1, w2, w3, w4⟩ := wid_ok (n := m) (by omega)
  have hnm : nameP 106 1 (m : Int) = 106 :: digK 9 m := by
    unfold nameP
    rw [if_neg (by omega), Int.toNat_natCast]
  simp only [k32_a, WK, vop, evAll, evOpt, evParts, vbuiltin, vun, vextract, Nat.reduceLT, Nat.reduceEqDiff, ↓reduceIte, reduceCtorEq, Nat.reduceAdd, Int.reduceLT, Int.reduceNeg, valloc_std, noSB, vhot, List.getD_cons_zero, h0, h1, decide_false, oe]
  refine KD.ret (itoa_does (by omega)) ?_
  simp only [k32_a, WK, vop, evAll, evOpt, evParts, vbuiltin, vun, vextract, Nat.reduceLT, Nat.reduceEqDiff, ↓reduceIte, reduceCtorEq, Nat.reduceAdd, Int.reduceLT, Int.reduceNeg, valloc_std, noSB, vhot]
  refine Ev.loopF (fun (k : Nat) e s => e 3 = .str (digK k m) ∧ m < 10 ^ k ∧ k ≤ 9 ∧ s = σ) (fun k => 9 - k) (wid m) ?_ ?_
  · exact ⟨by simp [upd_some], w3, w1, rfl⟩
  rintro k e s ⟨h3, hm, hk, rfl⟩ hf
  clear hf
  have hl := vlenS (digK k m)
  rw [digK_len] at hl
  by_cases hlt : k < 9
  · have hlt' : (k : Int) < 9 := by omega
    have ha : strBin .add [48] (digK k m) = some (.str (digK (k + 1) m)) := by
      rw [sbA (by rw [digK_len]; simp; omega), digK_zero hm]; rfl
    simp only [k32_a, WK, vop, evAll, evOpt, evParts, vbuiltin, vun, vextract, Nat.reduceLT, Nat.reduceEqDiff, ↓reduceIte, reduceCtorEq, Nat.reduceAdd, Int.reduceLT, Int.reduceNeg, valloc_std, noSB, vhot, h3, hl, hlt', decide_true, o0, ha]
    exact ⟨k + 1, ⟨by simp [upd_some], by rw [Nat.pow_succ]; omega, by omega⟩, by omega⟩
  · have hlt' : ¬ (k : Int) < 9 := by omega
    have hk9 : k = 9 := by omega
    subst hk9
    have ha : strBin .add [106] (digK 9 m) = some (.str (106 :: digK 9 m)) := by
      rw [sbA (by rw [digK_len]; simp)]; rfl
    simp only [k32_a, WK, vop, evAll, evOpt, evParts, vbuiltin, vun, vextract, Nat.reduceLT, Nat.reduceEqDiff, ↓reduceIte, reduceCtorEq, Nat.reduceAdd, Int.reduceLT, Int.reduceNeg, valloc_std, noSB, vhot, h3, hl, hlt', decide_false, oc, ha, hnm]
theorem rwname_does {σ : St} (n : Int) : Does Tryd.prog prims 33 [.int .i64 n] σ (.ret (.str (nameP 106 1 n))) σ := by
  apply k33_is.ret (by simp)
  have oe : ofVal (Value.string { data := #[] }) = some (.str []) := rfl
  have oc : ofVal (Value.string { data := #[106] }) = some (.str [106]) := rfl
  by_cases h0 : n < 1
  · simp only [k33_a, WK, vop, evAll, evOpt, evParts, vbuiltin, vun, vextract, Nat.reduceLT, Nat.reduceEqDiff, ↓reduceIte, reduceCtorEq, Nat.reduceAdd, Int.reduceLT, Int.reduceNeg, valloc_std, noSB, vhot, List.getD_cons_zero, h0, decide_true, oe]
    unfold nameP
    rw [if_pos (.inl h0)]
  by_cases h1 : 999999999 < n
  · simp only [k33_a, WK, vop, evAll, evOpt, evParts, vbuiltin, vun, vextract, Nat.reduceLT, Nat.reduceEqDiff, ↓reduceIte, reduceCtorEq, Nat.reduceAdd, Int.reduceLT, Int.reduceNeg, valloc_std, noSB, vhot, List.getD_cons_zero, h0, h1, decide_true, decide_false, oe]
    unfold nameP
    rw [if_pos (.inr h1)]
  obtain ⟨m, rfl⟩ : ∃ m : Nat, n = (m : Int) := ⟨n.toNat, by omega⟩
  have hnm : nameP 106 1 (m : Int) = 106 :: digK 9 m := by
    unfold nameP
    rw [if_neg (by omega), Int.toNat_natCast]
  simp only [k33_a, WK, vop, evAll, evOpt, evParts, vbuiltin, vun, vextract, Nat.reduceLT, Nat.reduceEqDiff, ↓reduceIte, reduceCtorEq, Nat.reduceAdd, Int.reduceLT, Int.reduceNeg, valloc_std, noSB, vhot, List.getD_cons_zero, h0, h1, decide_false, oe]
  refine Ev.loopF (fun (i : Nat) e s => e 4 = .int .i64 (i : Nat) ∧ i ≤ 9 ∧ e 3 = .str (digK i m) ∧ e 0 = .int .i64 ((m / 10 ^ i : Nat) : Int) ∧ s = σ) (fun i => 9 - i) 0 ?_ ?_
  · exact ⟨by simp [upd_some], Nat.zero_le _, by simp [upd_some, digK], by simp [upd_some], rfl⟩
  rintro i e s ⟨h4, hi, h3, g0, rfl⟩ hf
  clear hf
  by_cases hlt : i < 9
  · have hlt' : (i : Int) < 9 := by omega
    have hwi : IntKind.i64.wrap ((i : Int) + 1) = ((i + 1 : Nat) : Int) := by rw [wrap_i64 (by omega) (by omega)]; omega
    have hq : m / 10 ^ i ≤ m := Nat.div_le_self _ _
    generalize hqe : m / 10 ^ i = q at g0 hq
    have hd : q % 10 < 10 := Nat.mod_lt _ (by decide)
    have htm : Int.tmod ((q : Nat) : Int) 10 = ((q % 10 : Nat) : Int) := by rw [Int.tmod_eq_emod_of_nonneg (by omega)]; omega
    have htd : Int.tdiv ((q : Nat) : Int) 10 = ((q / 10 : Nat) : Int) := by rw [Int.tdiv_eq_ediv_of_nonneg (by omega)]; omega
    have hw1 : IntKind.i64.wrap (48 + ((q % 10 : Nat) : Int)) = ((48 + q % 10 : Nat) : Int) := by rw [wrap_i64 (by omega) (by omega)]; omega
    have hw2 : IntKind.i64.wrap ((q / 10 : Nat) : Int) = ((q / 10 : Nat) : Int) := wrap_i64 (by omega) (by omega)
    have hcv : vconv Tryd.prog 3 5 (.int .i64 ((48 + q % 10 : Nat) : Int)) = some (.int .u8 ((48 + q % 10 : Nat) : Int)) := by
      simp only [vconv, T3, T5]
      rw [wrap_u8 (by omega) (by omega)]
    obtain ⟨hb1, hb2⟩ := buildByte (P := Tryd.prog) BT (n := 48 + q % 10) (by omega)
    have hcs := conv_str hb2
    have hp : m / 10 ^ (i + 1) = q / 10 := by rw [Nat.pow_succ, ← Nat.div_div_eq_div_mul, hqe]
    have ha : strBin .add [UInt8.ofNat (48 + q % 10)] (digK i m) = some (.str (digK (i + 1) m)) := by
      rw [sbA (by rw [digK_len]; simp; omega), digK_front, hqe]; rfl
    have z10 : ¬ (10 : Int) = 0 := by decide
    simp only [k33_a, WK, vop, evAll, evOpt, evParts, vbuiltin, vun, vextract, Nat.reduceLT, Nat.reduceEqDiff, ↓reduceIte, reduceCtorEq, Nat.reduceAdd, Int.reduceLT, Int.reduceNeg, valloc_std, noSB, vhot, h4, h3, g0, hlt', decide_true, z10, htm, hw1, hcv, hb1, hcs, ha, htd, hw2, hwi]
    exact ⟨i + 1, ⟨by simp [upd_some], by omega, by simp [upd_some], by simp [upd_some, hp]⟩, by omega⟩
  · have hlt' : ¬ (i : Int) < 9 := by omega
    have hi9 : i = 9 := by omega
    subst hi9
    have ha : strBin .add [106] (digK 9 m) = some (.str (106 :: digK 9 m)) := by
      rw [sbA (by rw [digK_len]; simp)]; rfl
    simp only [k33_a, WK, vop, evAll, evOpt, evParts, vbuiltin, vun, vextract, Nat.reduceLT, Nat.reduceEqDiff, ↓reduceIte, reduceCtorEq, Nat.reduceAdd, Int.reduceLT, Int.reduceNeg, valloc_std, noSB, vhot, h4, h3, hlt', decide_false, oc, ha, hnm]
end Go.Proofs.YtnegdinonfjdfaaDoor.Q

/- Snapshots' bytes, plainly. -/
set_option linter.unusedVariables false
set_option linter.unusedSimpArgs false
namespace Go.Proofs.YtnegdinonfjdfaaDoor.Q
open Go Go.RowKit Go.Proofs
def fourB (r : BitVec 32) : List UInt8 := [UInt8.ofNat r.toNat, UInt8.ofNat (r >>> 8).toNat, UInt8.ofNat (r >>> 16).toNat, UInt8.ofNat (r >>> 24).toNat]
def w4 (b : List UInt8) (i : Nat) : BitVec 32 := BitVec.ofNat 32 (b.getD i 0).toNat ||| (BitVec.ofNat 32 (b.getD (i + 1) 0).toNat <<< 8) ||| (BitVec.ofNat 32 (b.getD (i + 2) 0).toNat <<< 16) ||| (BitVec.ofNat 32 (b.getD (i + 3) 0).toNat <<< 24)
theorem shrN (r : BitVec 32) (k : Nat) : (r >>> k).toNat = r.toNat / 2 ^ k := by rw [BitVec.toNat_ushiftRight, Nat.shiftRight_eq_div_pow]
theorem fourB_len (r : BitVec 32) : (fourB r).length = 4 := rfl
theorem or_nat (x : BitVec 32) (b : UInt8) (k : Nat) (hx : x.toNat < 2 ^ k) (hk : k ≤ 24) : (x ||| (BitVec.ofNat 32 b.toNat <<< k)).toNat = x.toNat + b.toNat * 2 ^ k := by
  have hb := b.toNat_lt
  have h2 : 2 ^ k ≤ 2 ^ 24 := Nat.pow_le_pow_right (by decide) hk
  have h3 : b.toNat * 2 ^ k ≤ 255 * 2 ^ 24 := Nat.mul_le_mul (by omega) h2
  have e24 : (2 : Nat) ^ 24 = 16777216 := by decide
  have e1 : (BitVec.ofNat 32 b.toNat <<< k).toNat = b.toNat <<< k := by
    have m1 : b.toNat % 2 ^ 32 = b.toNat := Nat.mod_eq_of_lt (by omega)
    rw [BitVec.toNat_shiftLeft, BitVec.toNat_ofNat, m1, Nat.shiftLeft_eq, Nat.mod_eq_of_lt (by omega)]
  rw [BitVec.toNat_or, e1, Nat.or_comm, ← Nat.shiftLeft_add_eq_or_of_lt hx, Nat.shiftLeft_eq, Nat.add_comm]
theorem w4_nat (b : List UInt8) (i : Nat) : (w4 b i).toNat = (b.getD i 0).toNat + (b.getD (i + 1) 0).toNat * 256 + (b.getD (i + 2) 0).toNat * 65536 + (b.getD (i + 3) 0).toNat * 16777216 := by
  have h0 := (b.getD i 0).toNat_lt
  have h1 := (b.getD (i + 1) 0).toNat_lt
  have h2 := (b.getD (i + 2) 0).toNat_lt
  have h3 := (b.getD (i + 3) 0).toNat_lt
  have e0 : (BitVec.ofNat 32 (b.getD i 0).toNat).toNat = (b.getD i 0).toNat := by rw [BitVec.toNat_ofNat, Nat.mod_eq_of_lt (by omega)]
  unfold w4
  have a1 := or_nat (BitVec.ofNat 32 (b.getD i 0).toNat) (b.getD (i + 1) 0) 8 (by rw [e0]; omega) (by omega)
  have a2 := or_nat (BitVec.ofNat 32 (b.getD i 0).toNat ||| (BitVec.ofNat 32 (b.getD (i + 1) 0).toNat <<< 8)) (b.getD (i + 2) 0) 16 (by rw [a1, e0]; omega) (by omega)
  have a3 := or_nat (BitVec.ofNat 32 (b.getD i 0).toNat ||| (BitVec.ofNat 32 (b.getD (i + 1) 0).toNat <<< 8) ||| (BitVec.ofNat 32 (b.getD (i + 2) 0).toNat <<< 16)) (b.getD (i + 3) 0) 24 (by rw [a2, a1, e0]; omega) (by omega)
  rw [a3, a2, a1, e0]
theorem fourB_w4 (b0 b1 b2 b3 : UInt8) (r : BitVec 32) (h : r.toNat = b0.toNat + b1.toNat * 256 + b2.toNat * 65536 + b3.toNat * 16777216) : fourB r = [b0, b1, b2, b3] := by
  have h0 := b0.toNat_lt
  have h1 := b1.toNat_lt
  have h2 := b2.toNat_lt
  have h3 := b3.toNat_lt
  unfold fourB
  rw [shrN, shrN, shrN, h]
  congr 1
  · apply UInt8.toNat_inj.1; rw [UInt8.toNat_ofNat']; omega
  congr 1
  · apply UInt8.toNat_inj.1; rw [UInt8.toNat_ofNat']; omega
  congr 1
  · apply UInt8.toNat_inj.1; rw [UInt8.toNat_ofNat']; omega
  congr 1
  · apply UInt8.toNat_inj.1; rw [UInt8.toNat_ofNat']; omega
theorem four_at {b : List UInt8} {i : Nat} (h : i + 4 ≤ b.length) : fourB (w4 b i) = (b.drop i).take 4 := by
  rw [fourB_w4 _ _ _ _ _ (w4_nat b i)]
  apply List.ext_getElem
  · simp; omega
  · intro j h1 h2
    simp at h1
    rw [List.getElem_take, List.getElem_drop]
    match j, h1 with
    | 0, _ => simp [List.getD_eq_getElem?_getD, List.getElem?_eq_getElem (show i < b.length by omega)]
    | 1, _ => simp [List.getD_eq_getElem?_getD, List.getElem?_eq_getElem (show i + 1 < b.length by omega)]
    | 2, _ => simp [List.getD_eq_getElem?_getD, List.getElem?_eq_getElem (show i + 2 < b.length by omega)]
    | 3, _ => simp [List.getD_eq_getElem?_getD, List.getElem?_eq_getElem (show i + 3 < b.length by omega)]
theorem w4_of {b : List UInt8} {i : Nat} {r : BitVec 32} (h : (b.drop i).take 4 = fourB r) : w4 b i = r := by
  have hl : i + 4 ≤ b.length := by
    have := congrArg List.length h
    rw [List.length_take, List.length_drop, fourB_len] at this
    omega
  have hg : ∀ j (hj : j < 4), b.getD (i + j) 0 = (fourB r)[j]'(by rw [fourB_len]; exact hj) := fun j hj => by
    have : (fourB r)[j]? = ((b.drop i).take 4)[j]? := by rw [h]
    rw [List.getElem?_take_of_lt hj, List.getElem?_drop, List.getElem?_eq_getElem (by rw [fourB_len]; exact hj)] at this
    rw [List.getD_eq_getElem?_getD, ← this]
    rfl
  apply BitVec.eq_of_toNat_eq
  rw [w4_nat]
  have g0 := hg 0 (by omega)
  have g1 := hg 1 (by omega)
  have g2 := hg 2 (by omega)
  have g3 := hg 3 (by omega)
  rw [Nat.add_zero] at g0
  rw [g0, g1, g2, g3]
  have hr := r.isLt
  simp only [fourB, List.getElem_cons_zero, List.getElem_cons_succ, UInt8.toNat_ofNat', shrN]
  omega
theorem fourB_inj {r s : BitVec 32} (h : fourB r = fourB s) : r = s := by
  have h1 : w4 (fourB r) 0 = r := w4_of (by rfl)
  have h2 : w4 (fourB s) 0 = s := w4_of (by rfl)
  rw [← h1, ← h2, h]
/-- A snapshot's bytes. -/
def headS (n : Int) (body : List UInt8) : List UInt8 := fourB (BitVec.ofInt 32 n) ++ fourB (BitVec.ofNat 32 body.length)
def encS (n : Int) (body : List UInt8) : List UInt8 := headS n body ++ (fourB (crcSum (headS n body ++ body)) ++ body)
theorem headS_len (n : Int) (body : List UInt8) : (headS n body).length = 8 := rfl
theorem encS_len (n : Int) (body : List UInt8) : (encS n body).length = 12 + body.length := by
  unfold encS
  rw [List.length_append, List.length_append, headS_len, fourB_len]
  omega
/-- What bytes are, as a snapshot of this number: its own bytes, what is wrong (10 short, 11 form, 12 sum). -/
def decS (n : Int) (b : List UInt8) : List UInt8 × Nat :=
  if b.length < 12 then ([], 10) else
  if b.length - 12 < (w4 b 4).toNat then ([], 10) else
  if (w4 b 4).toNat < b.length - 12 ∨ n < 0 ∨ 999999999 < n ∨ w4 b 0 ≠ BitVec.ofInt 32 n then ([], 11) else
  if w4 b 8 ≠ crcSum (b.take 8 ++ b.drop 12) then ([], 12) else (b.drop 12, 0)
end Go.Proofs.YtnegdinonfjdfaaDoor.Q

/- Encode, of the program and of the document. -/
set_option linter.unusedVariables false
set_option linter.unusedSimpArgs false
set_option maxRecDepth 100000
namespace Go.Proofs.YtnegdinonfjdfaaDoor.Q
open Go Go.RowKit Go.Proofs
theorem wrap_bv (n : Int) : IntKind.u32.wrap n = (((BitVec.ofInt 32 n).toNat : Nat) : Int) := by
  rw [BitVec.toNat_ofInt]
  unfold IntKind.wrap
  simp [IntKind.bits, IntKind.signed, IntKind.max, IntKind.min]
  omega
theorem conv32 (n : Int) : vconv Tryd.prog 3 61 (.int .i64 n) = some (.int .u32 (((BitVec.ofInt 32 n).toNat : Nat) : Int)) := by
  simp only [vconv, T3, pTU, wrap_bv]
theorem conv8 (r : BitVec 32) : vconv Tryd.prog 61 5 (.int .u32 ((r.toNat : Nat) : Int)) = some (byteV (UInt8.ofNat r.toNat)) := by
  have h : IntKind.u8.wrap ((r.toNat : Nat) : Int) = (((UInt8.ofNat r.toNat).toNat : Nat) : Int) := by
    rw [UInt8.toNat_ofNat']
    unfold IntKind.wrap
    simp [IntKind.bits, IntKind.signed, IntKind.max, IntKind.min]
  simp only [vconv, pTU, T5, h, byteV]
theorem shr8 (r : BitVec 32) : (((r.toNat : Nat) : Int) / (2 : Int) ^ (min (8 : Int).toNat IntKind.u32.bits)) = (((r >>> 8).toNat : Nat) : Int) := by
  have e : (2 : Int) ^ (min (8 : Int).toNat IntKind.u32.bits) = ((256 : Nat) : Int) := by decide
  rw [e, shrN]; omega
theorem shr16 (r : BitVec 32) : (((r.toNat : Nat) : Int) / (2 : Int) ^ (min (16 : Int).toNat IntKind.u32.bits)) = (((r >>> 16).toNat : Nat) : Int) := by
  have e : (2 : Int) ^ (min (16 : Int).toNat IntKind.u32.bits) = ((65536 : Nat) : Int) := by decide
  rw [e, shrN]; omega
theorem shr24 (r : BitVec 32) : (((r.toNat : Nat) : Int) / (2 : Int) ^ (min (24 : Int).toNat IntKind.u32.bits)) = (((r >>> 24).toNat : Nat) : Int) := by
  have e : (2 : Int) ^ (min (24 : Int).toNat IntKind.u32.bits) = ((16777216 : Nat) : Int) := by decide
  rw [e, shrN]; omega
theorem build4 (a b c d : UInt8) : vbuildSlice Tryd.prog 22 4 [(0, byteV a), (1, byteV b), (2, byteV c), (3, byteV d)] = some (.slice .exact 1 ([a, b, c, d].map byteV) 4) := by
  have e : List.range 4 = [0, 1, 2, 3] := by decide
  simp [vbuildSlice, T22, S5, BT.z, vcells, vfill, zeroCellsV, setAll, byteV, e]
theorem four_bts (r : BitVec 32) : BtsV (.slice .exact 1 ((fourB r).map byteV) 4) (fourB r) := .inr ⟨.exact, rfl⟩
theorem four_own {σ : St} {m : Nat} (r : BitVec 32) : OwnV 5 m σ (.slice .exact 1 ((fourB r).map byteV) 4) (fourB r) := .inr ⟨.exact, rfl, .inl rfl⟩
theorem TA2 : Tryd.prog.underlying 67 = some (.array 2 61) := by kernel_rfl
theorem bldA2 (a b : Int) : vbuild Tryd.prog 67 [(0, .int .u32 a), (1, .int .u32 b)] = some (.agg [.int .u32 a, .int .u32 b]) := by kernel_rfl
theorem idxA2 (a b : BitVec 32) : ∀ i : Nat, i < 2 → vindex Tryd.prog 67 (.agg [.int .u32 ((a.toNat : Nat) : Int), .int .u32 ((b.toNat : Nat) : Int)]) (.int .i64 (i : Int)) = some (.int .u32 (((if i = 0 then a else b).toNat : Nat) : Int))
  | 0, _ => by simp [vindex, TA2, pSU, vpart, pGU]
  | 1, _ => by simp [vindex, TA2, pSU, vpart, pGU]
theorem Keep.toks (σ : St) : Keep σ σ := Keep.refl σ
theorem encode_sees {σ : St} {n : Int} {x : V} {body : List UInt8} (hb : BtsV x body) (hl : body.length ≤ 100000000) :
    ∃ q σ', Does Tryd.prog prims 17 [.int .i64 n, x] σ q σ' ∧ ∃ v, q = .ret v ∧ BtsV v (encS n body) ∧ Keep σ σ' := by
  apply k17_is.does (by simp)
  have hlen := hb.len T22
  obtain ⟨A, hA⟩ : ∃ A, A = BitVec.ofInt 32 n := ⟨_, rfl⟩
  obtain ⟨B, hB⟩ : ∃ B, B = BitVec.ofNat 32 body.length := ⟨_, rfl⟩
  have hB' : BitVec.ofInt 32 ((body.length : Nat) : Int) = B := by rw [hB]; simp
  have hhead : headS n body = fourB A ++ fourB B := by rw [hA, hB]; rfl
  have c1 := conv32 n
  have c2 := conv32 ((body.length : Nat) : Int)
  rw [← hA] at c1
  rw [hB'] at c2
  simp only [k17_a, WK, vop, evAll, evOpt, evParts, vbuiltin, vun, vextract, Nat.reduceLT, Nat.reduceEqDiff, ↓reduceIte, reduceCtorEq, Nat.reduceAdd, Int.reduceLT, Int.reduceNeg, valloc_std, noSB, vhot, List.getD_cons_zero, List.getD_cons_succ, nilEP, c1, hlen, c2, bldA2]
  refine Ev.loopF (fun (i : Nat) e s => e 15 = .int .i64 (i : Nat) ∧ i ≤ 2 ∧ OwnV 5 σ.toks.length s (e 5) ((fourB A ++ fourB B).take (4 * i)) ∧ Keep σ s) (fun i => 2 - i) 0 ?_ ?_
  · exact ⟨by simp [upd_some], Nat.zero_le _, by simp [upd_some, OwnV], Keep.refl _⟩
  rintro i e s ⟨h15, hi, h5, hk⟩ hf
  have g1 : e 1 = x := (hf 1 (by decide)).trans (by simp [upd_some])
  have g14 : e 14 = .agg [.int .u32 ((A.toNat : Nat) : Int), .int .u32 ((B.toNat : Nat) : Int)] := (hf 14 (by decide)).trans (by simp [upd_some])
  clear hf
  by_cases hlt : i < 2
  · have hlt' : (i : Int) < 2 := by omega
    have hwi : IntKind.i64.wrap ((i : Int) + 1) = ((i + 1 : Nat) : Int) := by rw [wrap_i64 (by omega) (by omega)]; omega
    have hix := idxA2 A B i hlt
    obtain ⟨R, hR⟩ : ∃ R, R = if i = 0 then A else B := ⟨_, rfl⟩
    rw [← hR] at hix
    obtain ⟨v', s', a1, a2, a3, a4⟩ := h5.append' BT (σ0 := σ) rfl hk T22 (four_bts R) (by rw [List.length_take, fourB_len]; omega)
    have htk : (fourB A ++ fourB B).take (4 * i) ++ fourB R = (fourB A ++ fourB B).take (4 * (i + 1)) := by
      match i, hlt with
      | 0, _ => rw [hR]; rfl
      | 1, _ => rw [hR]; rfl
    rw [htk] at a2
    have hbl := build4 (UInt8.ofNat R.toNat) (UInt8.ofNat (R >>> 8).toNat) (UInt8.ofNat (R >>> 16).toNat) (UInt8.ofNat (R >>> 24).toNat)
    rw [show [UInt8.ofNat R.toNat, UInt8.ofNat (R >>> 8).toNat, UInt8.ofNat (R >>> 16).toNat, UInt8.ofNat (R >>> 24).toNat] = fourB R from rfl] at hbl
    simp only [k17_a, WK, vop, evAll, evOpt, evParts, vbuiltin, vun, vextract, Nat.reduceLT, Nat.reduceEqDiff, ↓reduceIte, reduceCtorEq, Nat.reduceAdd, Int.reduceLT, Int.reduceNeg, valloc_std, noSB, vhot, h15, hlt', decide_true, g14, hix, conv8, shr8, shr16, shr24, hbl, a1, hwi]
    exact ⟨i + 1, ⟨by simp [upd_some], by omega, by simpa [upd_some] using a2, a3⟩, by omega⟩
  · have hlt' : ¬ (i : Int) < 2 := by omega
    have hi2 : i = 2 := by omega
    subst hi2
    have ht8 : (fourB A ++ fourB B).take (4 * 2) = fourB A ++ fourB B := List.take_of_length_le (by simp [fourB_len])
    rw [ht8, ← hhead] at h5
    have h8l := h5.bts.len T22
    obtain ⟨vc, hc, oc⟩ := h5.bts.clip (t := 22) T22 S5 (k := .i64) (k' := .i64) (n := s.toks.length) (σ := s)
    obtain ⟨v6, s6, b1, b2, b3, b4⟩ := OwnV.append' (P := Tryd.prog) (t := 22) (t2 := 22) BT oc (σ0 := s) rfl (Keep.refl s) T22 hb (by rw [headS_len]; omega)
    have h56 := h5.keep b3
    have hk6 := hk.trans b3
    have hs := crcsum_does (σ := s6) b2.bts (by rw [List.length_append, headS_len]; omega)
    obtain ⟨C, hC⟩ : ∃ C, C = crcSum (headS n body ++ body) := ⟨_, rfl⟩
    rw [← hC] at hs
    obtain ⟨v7, s7, d1, d2, d3, d4⟩ := h56.append' BT (σ0 := σ) rfl hk6 T22 (four_bts C) (by rw [headS_len, fourB_len]; omega)
    obtain ⟨v8, s8, e1, e2, e3, e4⟩ := d2.append' BT (σ0 := σ) rfl d3 T22 hb (by rw [List.length_append, headS_len, fourB_len]; omega)
    have hbl := build4 (UInt8.ofNat C.toNat) (UInt8.ofNat (C >>> 8).toNat) (UInt8.ofNat (C >>> 16).toNat) (UInt8.ofNat (C >>> 24).toNat)
    rw [show [UInt8.ofNat C.toNat, UInt8.ofNat (C >>> 8).toNat, UInt8.ofNat (C >>> 16).toNat, UInt8.ofNat (C >>> 24).toNat] = fourB C from rfl] at hbl
    simp only [k17_a, WK, vop, evAll, evOpt, evParts, vbuiltin, vun, vextract, Nat.reduceLT, Nat.reduceEqDiff, ↓reduceIte, reduceCtorEq, Nat.reduceAdd, Int.reduceLT, Int.reduceNeg, valloc_std, noSB, vhot, h15, hlt', decide_false, g1, h8l, hc, b1, T22]
    refine KD.ret hs ?_
    simp only [k17_a, WK, vop, evAll, evOpt, evParts, vbuiltin, vun, vextract, Nat.reduceLT, Nat.reduceEqDiff, ↓reduceIte, reduceCtorEq, Nat.reduceAdd, Int.reduceLT, Int.reduceNeg, valloc_std, noSB, vhot, uV, g1, conv8, shr8, shr16, shr24, hbl, d1, e1]
    refine ⟨v8, rfl, ?_, e3⟩
    have : encS n body = headS n body ++ fourB C ++ body := by rw [hC, List.append_assoc]; rfl
    rw [this]
    exact e2.bts
end Go.Proofs.YtnegdinonfjdfaaDoor.Q

/- Decode, of the program and of the document. -/
set_option linter.unusedVariables false
set_option linter.unusedSimpArgs false
set_option maxRecDepth 100000
namespace Go.Proofs.YtnegdinonfjdfaaDoor.Q
open Go Go.RowKit Go.Proofs
theorem shl_nat (r : BitVec 32) (k : Nat) (hk : k ≤ 24) (hr : r.toNat < 256) : IntKind.u32.wrap (((r.toNat : Nat) : Int) * (2 : Int) ^ k) = (((r <<< k).toNat : Nat) : Int) := by
  have h2 : 2 ^ k ≤ 2 ^ 24 := Nat.pow_le_pow_right (by decide) hk
  have h3 : r.toNat * 2 ^ k ≤ 255 * 2 ^ 24 := Nat.mul_le_mul (by omega) h2
  have e24 : (2 : Nat) ^ 24 = 16777216 := by decide
  have e : (((r.toNat : Nat) : Int) * (2 : Int) ^ k) = ((r.toNat * 2 ^ k : Nat) : Int) := by
    rw [Int.natCast_mul, Int.natCast_pow]; rfl
  rw [e, wrap_u32 (by omega) (by omega), BitVec.toNat_shiftLeft, Nat.shiftLeft_eq, Nat.mod_eq_of_lt (by omega)]
theorem byte_lt (b : UInt8) : (BitVec.ofNat 32 b.toNat).toNat < 256 := by
  have := b.toNat_lt
  rw [BitVec.toNat_ofNat, Nat.mod_eq_of_lt (by omega)]; omega
theorem shl8 (b : UInt8) : IntKind.u32.wrap ((((BitVec.ofNat 32 b.toNat).toNat : Nat) : Int) * (2 : Int) ^ (min (8 : Int).toNat IntKind.u32.bits)) = (((BitVec.ofNat 32 b.toNat <<< 8).toNat : Nat) : Int) := shl_nat _ 8 (by omega) (byte_lt b)
theorem shl16 (b : UInt8) : IntKind.u32.wrap ((((BitVec.ofNat 32 b.toNat).toNat : Nat) : Int) * (2 : Int) ^ (min (16 : Int).toNat IntKind.u32.bits)) = (((BitVec.ofNat 32 b.toNat <<< 16).toNat : Nat) : Int) := shl_nat _ 16 (by omega) (byte_lt b)
theorem shl24 (b : UInt8) : IntKind.u32.wrap ((((BitVec.ofNat 32 b.toNat).toNat : Nat) : Int) * (2 : Int) ^ (min (24 : Int).toNat IntKind.u32.bits)) = (((BitVec.ofNat 32 b.toNat <<< 24).toNat : Nat) : Int) := shl_nat _ 24 (by omega) (byte_lt b)
theorem conv832 (b : UInt8) : vconv Tryd.prog 5 61 (.int .u8 ((b.toNat : Nat) : Int)) = some (.int .u32 (((BitVec.ofNat 32 b.toNat).toNat : Nat) : Int)) := by
  simp only [vconv, pT5, pTU, byte32]
theorem BtsV.at' {v : V} {bs : List UInt8} (h : BtsV v bs) {i : Nat} (hi : i < bs.length) : vindexAddr Tryd.prog 22 v (.int .i64 (i : Int)) = some (.eptr (bs.map byteV) i) := by
  have := h.addr T22 S5 (k := .i64) (n := (i : Int)) (by omega) (by omega)
  rwa [Int.toNat_natCast] at this
theorem byte_ld {bs : List UInt8} {i : Nat} (hi : i < bs.length) {objs : List Ob} : vload Tryd.prog objs 5 (.eptr (bs.map byteV) i) = some (.int .u8 ((bs.getD i 0).toNat : Nat)) := by
  rw [List.getD_eq_getElem?_getD, List.getElem?_eq_getElem hi]
  exact BtsV.load (P := Tryd.prog) G5 hi
theorem word_does {σ : St} {r : Nat} {x : V} {bs : List UInt8} (ho : σ.objs[r]? = some (.cells [x])) (hb : BtsV x bs) {k : Nat} (hk : k + 4 ≤ bs.length) (hl : bs.length ≤ 1000000000) : Does Tryd.prog prims 40 [.int .i64 (k : Nat), .optr r 0] σ (.ret (uV (w4 bs k))) σ := by
  apply k40_is.ret (by simp)
  have lx : vload Tryd.prog σ.objs 22 (.optr r 0) = some x := by rw [vload_obj ho pGB]; rfl
  have w1 : IntKind.i64.wrap ((k : Int) + 1) = ((k + 1 : Nat) : Int) := by rw [wrap_i64 (by omega) (by omega)]; omega
  have w2 : IntKind.i64.wrap ((k : Int) + 2) = ((k + 2 : Nat) : Int) := by rw [wrap_i64 (by omega) (by omega)]; omega
  have w3 : IntKind.i64.wrap ((k : Int) + 3) = ((k + 3 : Nat) : Int) := by rw [wrap_i64 (by omega) (by omega)]; omega
  simp only [k40_a, WK, vop, evAll, evOpt, evParts, vbuiltin, vun, vextract, Nat.reduceLT, Nat.reduceEqDiff, ↓reduceIte, reduceCtorEq, Nat.reduceAdd, Int.reduceLT, Int.reduceNeg, valloc_std, noSB, vhot, List.getD_cons_zero, List.getD_cons_succ, lx, w1, w2, w3, hb.at' (show k < bs.length by omega), hb.at' (show k + 1 < bs.length by omega), hb.at' (show k + 2 < bs.length by omega), hb.at' (show k + 3 < bs.length by omega),
    byte_ld (show k < bs.length by omega), byte_ld (show k + 1 < bs.length by omega), byte_ld (show k + 2 < bs.length by omega), byte_ld (show k + 3 < bs.length by omega), conv832, shl8, shl16, shl24, bit_or]
  rfl
theorem conv64a (r : BitVec 32) : vconv Tryd.prog 61 64 (.int .u32 ((r.toNat : Nat) : Int)) = some (.int .u64 ((r.toNat : Nat) : Int)) := by
  have h : IntKind.u64.wrap ((r.toNat : Nat) : Int) = ((r.toNat : Nat) : Int) := by
    have := r.isLt
    unfold IntKind.wrap
    simp [IntKind.bits, IntKind.signed, IntKind.max, IntKind.min]
    omega
  have hu : Tryd.prog.underlying 64 = some (.int .u64) := by kernel_rfl
  simp only [vconv, pTU, hu, h]
theorem conv64b (n : Nat) (hn : n ≤ 1000000000) : vconv Tryd.prog 3 64 (.int .i64 ((n : Nat) : Int)) = some (.int .u64 ((n : Nat) : Int)) := by
  have h : IntKind.u64.wrap ((n : Nat) : Int) = ((n : Nat) : Int) := by
    unfold IntKind.wrap
    simp [IntKind.bits, IntKind.signed, IntKind.max, IntKind.min]
    omega
  have hu : Tryd.prog.underlying 64 = some (.int .u64) := by kernel_rfl
  simp only [vconv, T3, hu, h]
theorem toNat_eq (a b : BitVec 32) : (((a.toNat : Nat) : Int) = ((b.toNat : Nat) : Int)) ↔ a = b := ⟨fun h => BitVec.eq_of_toNat_eq (by omega), fun h => by rw [h]⟩
theorem BtsV.clipN {v : V} {bs : List UInt8} (h : BtsV v bs) {n k : Nat} (hk : k ≤ bs.length) (h0 : 0 < k) {σ : St} : ∃ v', vslice Tryd.prog 22 v none (some (.int .i64 (k : Int))) (some (.int .i64 (k : Int))) = some v' ∧ OwnV 5 n σ v' (bs.take k) := by
  rcases h with ⟨rfl, rfl⟩ | ⟨p, rfl⟩
  · simp at hk; omega
  · refine ⟨.slice .exact 1 ((bs.take k).map byteV) (bs.take k).length, ?_, .inr ⟨.exact, rfl, .inl rfl⟩⟩
    have hb : vbounds bs.length none (some (.int .i64 (k : Int))) (some (.int .i64 (k : Int))) = some (0, k, some k) := by
      have : (k : Int) ≤ bs.length := by omega
      simp [vbounds, vb, this]
    simp only [vslice, T22, S5, hb, if_true, Nat.zero_mul, List.drop_zero, Nat.sub_zero, Nat.mul_one]
    rw [List.length_take, Nat.min_eq_left hk, List.map_take]
theorem decode_sees {σ : St} {n : Int} {x : V} {bs : List UInt8} (hb : BtsV x bs) (hl : bs.length ≤ 100000000) :
    ∃ q σ', Does Tryd.prog prims 12 [.int .i64 n, x] σ q σ' ∧ ∃ v, q = .ret (.tuple [v, .int .i64 ((decS n bs).2 : Nat)]) ∧ OwnV 5 σ.toks.length σ' v (decS n bs).1 ∧ KS [] σ σ' := by
  apply k12_is.does (by simp)
  obtain ⟨s1, hs1⟩ : ∃ s1 : St, s1 = ⟨σ.objs ++ [.cells [x]], σ.toks⟩ := ⟨_, rfl⟩
  have hcx : vcells x = [x] := vcells_one hb.one
  have K1 : KS [] σ s1 := by rw [hs1]; exact KS.push _ _ _
  have ob : s1.objs[σ.objs.length]? = some (.cells [x]) := by rw [hs1]; exact push_new _ _
  have lx : ∀ {s : St}, KS [] s1 s → vload Tryd.prog s.objs 22 (.optr σ.objs.length 0) = some x := fun {s} hk => by rw [vload_obj (hk.ko _ _ (by simp) ob) pGB]; rfl
  have lx1 := lx (KS.refl [] s1)
  have hlen := hb.len T22
  have nilO : ∀ s : St, OwnV 5 σ.toks.length s .nils [] := fun s => .inl ⟨rfl, rfl⟩
  by_cases h12 : bs.length < 12
  · have h12' : ((bs.length : Nat) : Int) < 12 := by omega
    have e : decS n bs = ([], 10) := by unfold decS; rw [if_pos h12]
    simp only [k12_a, WK, vop, evAll, evOpt, evParts, vbuiltin, vun, vextract, Nat.reduceLT, Nat.reduceEqDiff, ↓reduceIte, reduceCtorEq, Nat.reduceAdd, Int.reduceLT, Int.reduceNeg, valloc_std, noSB, vhot, List.getD_cons_zero, List.getD_cons_succ, nilEP, vbox, hcx, ← hs1, lx1, hlen, h12', decide_true, e]
    exact ⟨.nils, rfl, nilO _, K1⟩
  have h12' : ¬ ((bs.length : Nat) : Int) < 12 := by omega
  obtain ⟨vb, hvb, hbb⟩ := hb.slice (t := 22) T22 S5 (vbounds_lo (k := .i64) (n := 12) (len := bs.length) (by omega) (by omega)) (by omega) (by omega)
  rw [show (12 : Int).toNat = 12 from rfl, List.take_of_length_le (by rw [List.length_drop]; omega)] at hbb
  have hbl := hbb.len T22
  have hbdl : (bs.drop 12).length = bs.length - 12 := List.length_drop
  have f4 : ∀ s, KS [] s1 s → Does Tryd.prog prims 40 [.int .i64 4, .optr σ.objs.length 0] s (.ret (uV (w4 bs 4))) s := fun s hk => word_does (hk.ko _ _ (by simp) ob) hb (k := 4) (by omega) (by omega)
  have f0 : ∀ s, KS [] s1 s → Does Tryd.prog prims 40 [.int .i64 0, .optr σ.objs.length 0] s (.ret (uV (w4 bs 0))) s := fun s hk => word_does (hk.ko _ _ (by simp) ob) hb (k := 0) (by omega) (by omega)
  have f8 : ∀ s, KS [] s1 s → Does Tryd.prog prims 40 [.int .i64 8, .optr σ.objs.length 0] s (.ret (uV (w4 bs 8))) s := fun s hk => word_does (hk.ko _ _ (by simp) ob) hb (k := 8) (by omega) (by omega)
  rw [hbdl] at hbl
  have cb := conv64b (bs.length - 12) (by omega)
  simp only [k12_a, WK, vop, evAll, evOpt, evParts, vbuiltin, vun, vextract, Nat.reduceLT, Nat.reduceEqDiff, ↓reduceIte, reduceCtorEq, Nat.reduceAdd, Int.reduceLT, Int.reduceNeg, valloc_std, noSB, vhot, List.getD_cons_zero, List.getD_cons_succ, nilEP, vbox, hcx, ← hs1, lx1, hlen, h12', decide_false, T22, hvb]
  refine KD.ret (f4 s1 (KS.refl _ _)) ?_
  by_cases hshort : bs.length - 12 < (w4 bs 4).toNat
  · have hshort' : ((bs.length - 12 : Nat) : Int) < (((w4 bs 4).toNat : Nat) : Int) := by omega
    have e : decS n bs = ([], 10) := by unfold decS; rw [if_neg h12, if_pos hshort]
    simp only [k12_a, WK, vop, evAll, evOpt, evParts, vbuiltin, vun, vextract, Nat.reduceLT, Nat.reduceEqDiff, ↓reduceIte, reduceCtorEq, Nat.reduceAdd, Int.reduceLT, Int.reduceNeg, valloc_std, noSB, vhot, uV, conv64a, hbl, cb, hshort', decide_true, nilEP, e]
    exact ⟨.nils, rfl, nilO _, K1⟩
  have hshort' : ¬ ((bs.length - 12 : Nat) : Int) < (((w4 bs 4).toNat : Nat) : Int) := by omega
  simp only [k12_a, WK, vop, evAll, evOpt, evParts, vbuiltin, vun, vextract, Nat.reduceLT, Nat.reduceEqDiff, ↓reduceIte, reduceCtorEq, Nat.reduceAdd, Int.reduceLT, Int.reduceNeg, valloc_std, noSB, vhot, uV, conv64a, hbl, cb, hshort', decide_false]
  refine KD.ret (f4 s1 (KS.refl _ _)) ?_
  by_cases hsmall : (w4 bs 4).toNat < bs.length - 12
  · have hsmall' : (((w4 bs 4).toNat : Nat) : Int) < ((bs.length - 12 : Nat) : Int) := by omega
    have e : decS n bs = ([], 11) := by unfold decS; rw [if_neg h12, if_neg hshort, if_pos (.inl hsmall)]
    simp only [k12_a, WK, vop, evAll, evOpt, evParts, vbuiltin, vun, vextract, Nat.reduceLT, Nat.reduceEqDiff, ↓reduceIte, reduceCtorEq, Nat.reduceAdd, Int.reduceLT, Int.reduceNeg, valloc_std, noSB, vhot, uV, conv64a, hbl, cb, hsmall', decide_true, nilEP, e]
    exact ⟨.nils, rfl, nilO _, K1⟩
  have hsmall' : ¬ (((w4 bs 4).toNat : Nat) : Int) < ((bs.length - 12 : Nat) : Int) := by omega
  by_cases hn0 : n < 0
  · have e : decS n bs = ([], 11) := by unfold decS; rw [if_neg h12, if_neg hshort, if_pos (.inr (.inl hn0))]
    simp only [k12_a, WK, vop, evAll, evOpt, evParts, vbuiltin, vun, vextract, Nat.reduceLT, Nat.reduceEqDiff, ↓reduceIte, reduceCtorEq, Nat.reduceAdd, Int.reduceLT, Int.reduceNeg, valloc_std, noSB, vhot, List.getD_cons_zero, List.getD_cons_succ, uV, conv64a, hbl, cb, hsmall', hn0, decide_true, decide_false, nilEP, e]
    exact ⟨.nils, rfl, nilO _, K1⟩
  by_cases hn9 : 999999999 < n
  · have e : decS n bs = ([], 11) := by unfold decS; rw [if_neg h12, if_neg hshort, if_pos (.inr (.inr (.inl hn9)))]
    simp only [k12_a, WK, vop, evAll, evOpt, evParts, vbuiltin, vun, vextract, Nat.reduceLT, Nat.reduceEqDiff, ↓reduceIte, reduceCtorEq, Nat.reduceAdd, Int.reduceLT, Int.reduceNeg, valloc_std, noSB, vhot, List.getD_cons_zero, List.getD_cons_succ, uV, conv64a, hbl, cb, hsmall', hn0, hn9, decide_true, decide_false, nilEP, e]
    exact ⟨.nils, rfl, nilO _, K1⟩
  simp only [k12_a, WK, vop, evAll, evOpt, evParts, vbuiltin, vun, vextract, Nat.reduceLT, Nat.reduceEqDiff, ↓reduceIte, reduceCtorEq, Nat.reduceAdd, Int.reduceLT, Int.reduceNeg, valloc_std, noSB, vhot, List.getD_cons_zero, List.getD_cons_succ, uV, conv64a, hbl, cb, hsmall', hn0, hn9, decide_false]
  refine KD.ret (f0 s1 (KS.refl _ _)) ?_
  by_cases h0 : w4 bs 0 = BitVec.ofInt 32 n
  · have h0' : (((w4 bs 0).toNat : Nat) : Int) = (((BitVec.ofInt 32 n).toNat : Nat) : Int) := by rw [h0]
    simp only [k12_a, WK, vop, evAll, evOpt, evParts, vbuiltin, vun, vextract, Nat.reduceLT, Nat.reduceEqDiff, ↓reduceIte, reduceCtorEq, Nat.reduceAdd, Int.reduceLT, Int.reduceNeg, valloc_std, noSB, vhot, List.getD_cons_zero, List.getD_cons_succ, uV, conv32, h0', eq_self, decide_true, Bool.not_true]
    refine KD.ret (f8 s1 (KS.refl _ _)) ?_
    obtain ⟨vc, hc, oc⟩ := hb.clipN (n := s1.toks.length) (k := 8) (by omega) (by omega) (σ := s1)
    have hc : vslice Tryd.prog 22 x none (some (.int .i64 8)) (some (.int .i64 8)) = some vc := hc
    obtain ⟨v6, s6, b1, b2, b3, b4⟩ := OwnV.append' (P := Tryd.prog) (t := 22) (t2 := 22) BT oc (σ0 := s1) rfl (Keep.refl s1) T22 hbb (by rw [List.length_take]; omega)
    have hs := crcsum_does (σ := s6) b2.bts (by rw [List.length_append, List.length_take]; omega)
    have K6 : KS [] σ s6 := K1.trans' (b3.ks [])
    have lx6 := lx (b3.ks [])
    simp only [k12_a, WK, vop, evAll, evOpt, evParts, vbuiltin, vun, vextract, Nat.reduceLT, Nat.reduceEqDiff, ↓reduceIte, reduceCtorEq, Nat.reduceAdd, Int.reduceLT, Int.reduceNeg, valloc_std, noSB, vhot, uV, lx1, hc, T22, b1]
    refine KD.ret hs ?_
    by_cases h8 : w4 bs 8 = crcSum (bs.take 8 ++ bs.drop 12)
    · have h8' : (((w4 bs 8).toNat : Nat) : Int) = (((crcSum (bs.take 8 ++ bs.drop 12)).toNat : Nat) : Int) := by rw [h8]
      have e : decS n bs = (bs.drop 12, 0) := by
        unfold decS
        rw [if_neg h12, if_neg hshort, if_neg (by rintro (h | h | h | h); exact hsmall h; exact hn0 h; exact hn9 h; exact h h0), if_neg (fun h => h h8)]
      have hKt : Keep ⟨[], σ.toks⟩ s6 := ⟨fun r o h => by simp at h, K6.tl, K6.tk⟩
      obtain ⟨v7, s7, c1, c2, c3, c4⟩ := OwnV.append' (P := Tryd.prog) (t := 22) (t2 := 22) BT (σ := s6) (show OwnV 5 σ.toks.length s6 (.slice .exact 1 [] 0) [] from .inr ⟨.exact, rfl, .inl rfl⟩) (σ0 := ⟨[], σ.toks⟩) rfl hKt T22 hbb (by simp; omega)
      rw [List.nil_append] at c2
      simp only [k12_a, WK, vop, evAll, evOpt, evParts, vbuiltin, vun, vextract, Nat.reduceLT, Nat.reduceEqDiff, ↓reduceIte, reduceCtorEq, Nat.reduceAdd, Int.reduceLT, Int.reduceNeg, valloc_std, noSB, vhot, uV, h8', eq_self, decide_true, Bool.not_true, build0 BT, c1, e, lx1, lx6]
      refine ⟨v7, rfl, c2, ⟨fun r o hr ho => ?_, ?_, c3.2.1, c3.2.2⟩⟩
      · rw [c4]; exact K6.ko r o hr ho
      · rw [c4]; exact K6.le
    · have h8' : ¬ (((w4 bs 8).toNat : Nat) : Int) = (((crcSum (bs.take 8 ++ bs.drop 12)).toNat : Nat) : Int) := fun h => h8 ((toNat_eq _ _).1 h)
      have e : decS n bs = ([], 12) := by
        unfold decS
        rw [if_neg h12, if_neg hshort, if_neg (by rintro (h | h | h | h); exact hsmall h; exact hn0 h; exact hn9 h; exact h h0), if_pos h8]
      simp only [k12_a, WK, vop, evAll, evOpt, evParts, vbuiltin, vun, vextract, Nat.reduceLT, Nat.reduceEqDiff, ↓reduceIte, reduceCtorEq, Nat.reduceAdd, Int.reduceLT, Int.reduceNeg, valloc_std, noSB, vhot, uV, h8', decide_false, Bool.not_false, nilEP, e, lx1, lx6]
      exact ⟨.nils, rfl, nilO _, K6⟩
  · have h0' : ¬ (((w4 bs 0).toNat : Nat) : Int) = (((BitVec.ofInt 32 n).toNat : Nat) : Int) := fun h => h0 ((toNat_eq _ _).1 h)
    have e : decS n bs = ([], 11) := by unfold decS; rw [if_neg h12, if_neg hshort, if_pos (.inr (.inr (.inr h0)))]
    simp only [k12_a, WK, vop, evAll, evOpt, evParts, vbuiltin, vun, vextract, Nat.reduceLT, Nat.reduceEqDiff, ↓reduceIte, reduceCtorEq, Nat.reduceAdd, Int.reduceLT, Int.reduceNeg, valloc_std, noSB, vhot, List.getD_cons_zero, List.getD_cons_succ, uV, conv32, h0', decide_false, Bool.not_false, nilEP, e]
    exact ⟨.nils, rfl, nilO _, K1⟩
end Go.Proofs.YtnegdinonfjdfaaDoor.Q

/- Decode of the document; what was encoded is read. -/
set_option linter.unusedVariables false
set_option linter.unusedSimpArgs false
set_option maxRecDepth 100000
namespace Go.Proofs.YtnegdinonfjdfaaDoor.Q
open Go Go.RowKit Go.Proofs
/-- What was encoded is read again. -/
theorem dec_enc {n : Int} {body : List UInt8} (hn : 0 ≤ n ∧ n ≤ 999999999) (hl : body.length ≤ 100000000) : decS n (encS n body) = (body, 0) := by
  have hlen := encS_len n body
  have hd : (encS n body).drop 12 = body := by
    unfold encS
    rw [← List.append_assoc]
    exact List.drop_left' (by rw [List.length_append, headS_len, fourB_len])
  have ht8 : (encS n body).take 8 = headS n body := List.take_left' (headS_len n body)
  have h0 : w4 (encS n body) 0 = BitVec.ofInt 32 n := w4_of (by
    have : ((encS n body).drop 0).take 4 = ((encS n body).take 8).take 4 := by rw [List.take_take]; simp
    rw [this, ht8]; rfl)
  have h4 : w4 (encS n body) 4 = BitVec.ofNat 32 body.length := w4_of (by
    have : ((encS n body).drop 4).take 4 = ((encS n body).take 8).drop 4 := by rw [List.drop_take]
    rw [this, ht8]; rfl)
  have h8 : w4 (encS n body) 8 = crcSum (headS n body ++ body) := w4_of (by
    unfold encS
    rw [List.drop_left' (headS_len n body)]
    exact List.take_left' (fourB_len _))
  have h4n : (w4 (encS n body) 4).toNat = body.length := by rw [h4, BitVec.toNat_ofNat, Nat.mod_eq_of_lt (by omega)]
  unfold decS
  rw [if_neg (by omega), if_neg (by omega), if_neg (by rintro (h | h | h | h); omega; omega; omega; exact h h0), if_neg (by rw [h8, ht8, hd]; exact fun h => h rfl), hd]
theorem conv83 (b : UInt8) : vconv Tryd.prog 5 3 (.int .u8 ((b.toNat : Nat) : Int)) = some (.int .i64 ((b.toNat : Nat) : Int)) := by
  have := b.toNat_lt
  simp only [vconv, T5, T3]
  rw [wrap_i64 (by omega) (by omega)]
theorem rsize (p q r t : UInt8) : IntKind.i64.wrap (((q.toNat : Nat) : Int) * 256) = ((q.toNat * 256 : Nat) : Int) ∧ IntKind.i64.wrap (((r.toNat : Nat) : Int) * 65536) = ((r.toNat * 65536 : Nat) : Int) ∧ IntKind.i64.wrap (((t.toNat : Nat) : Int) * 16777216) = ((t.toNat * 16777216 : Nat) : Int) ∧
    IntKind.i64.wrap (((p.toNat : Nat) : Int) + ((q.toNat * 256 : Nat) : Int)) = ((p.toNat + q.toNat * 256 : Nat) : Int) ∧ IntKind.i64.wrap (((p.toNat + q.toNat * 256 : Nat) : Int) + ((r.toNat * 65536 : Nat) : Int)) = ((p.toNat + q.toNat * 256 + r.toNat * 65536 : Nat) : Int) ∧
    IntKind.i64.wrap (((p.toNat + q.toNat * 256 + r.toNat * 65536 : Nat) : Int) + ((t.toNat * 16777216 : Nat) : Int)) = ((p.toNat + q.toNat * 256 + r.toNat * 65536 + t.toNat * 16777216 : Nat) : Int) := by
  have h0 := p.toNat_lt
  have h1 := q.toNat_lt
  have h2 := r.toNat_lt
  have h3 := t.toNat_lt
  refine ⟨?_, ?_, ?_, ?_, ?_, ?_⟩
  · rw [wrap_i64 (by omega) (by omega)]; omega
  · rw [wrap_i64 (by omega) (by omega)]; omega
  · rw [wrap_i64 (by omega) (by omega)]; omega
  · rw [wrap_i64 (by omega) (by omega)]; omega
  · rw [wrap_i64 (by omega) (by omega)]; omega
  · rw [wrap_i64 (by omega) (by omega)]; omega
theorem sbN {a b : List UInt8} : strBin .neq a b = some (.bool (!decide (a = b))) := rfl
theorem sbE {a b : List UInt8} : strBin .eql a b = some (.bool (decide (a = b))) := rfl
end Go.Proofs.YtnegdinonfjdfaaDoor.Q

/- The waking of snapshots. -/
set_option linter.unusedVariables false
set_option linter.unusedSimpArgs false
set_option maxRecDepth 100000
namespace Go.Proofs.YtnegdinonfjdfaaDoor.Q
open Go Go.RowKit Go.Proofs
theorem wakes_run : isTrue (vcall Tryd.prog prims 300 11 [] st0) = true := by kernel_rfl
theorem wakes_does : ∃ σ, Does Tryd.prog prims 11 [] st0 (.ret (.bool true)) σ := by
  obtain ⟨σ, h⟩ := isTrue_eq wakes_run
  exact ⟨σ, 300, h⟩
end Go.Proofs.YtnegdinonfjdfaaDoor.Q

/- SnapBytes, SnapBack. -/
set_option linter.unusedVariables false
set_option linter.unusedSimpArgs false
set_option maxRecDepth 100000
namespace Go.Proofs.YtnegdinonfjdfaaDoor.Q
open Go Go.RowKit Go.Proofs
theorem same5_does {v w : V} {xs bs : List UInt8} {σ : St} (hv : RB σ v xs) (hw : RB σ w bs) (hla : xs.length ≤ 140737488355328) : Does Tryd.prog prims 16 [v, w] σ (.ret (.bool (decide (xs = bs)))) σ := by
  apply k16_is.ret (by simp)
  by_cases hlen : xs.length = bs.length
  · have hne : decide ((xs.length : Int) = bs.length) = true := by simp [hlen]
    simp only [k16_a, WK, vop, evAll, evOpt, evParts, vbuiltin, vun, vextract, Nat.reduceLT, Nat.reduceEqDiff, ↓reduceIte, reduceCtorEq, Nat.reduceAdd, Int.reduceLT, Int.reduceNeg, valloc_std, noSB, vhot, List.getD_cons_zero, List.getD_cons_succ, hv.len, hw.len, hne]
    refine Ev.loopF (fun i e σ' => σ' = σ ∧ e 13 = .int .i64 (i : Nat) ∧ i ≤ xs.length ∧ xs.take i = bs.take i) (fun i => xs.length - i) 0 ⟨rfl, by simp [upd_some], by simp, by simp⟩ ?_
    rintro i e σ' ⟨rfl, h13, hi, htk⟩ hf
    have h0 : e 0 = v := (hf 0 (by decide)).trans (by simp [upd_some])
    have h1 : e 1 = w := (hf 1 (by decide)).trans (by simp [upd_some])
    have h12 : e 12 = .int .i64 xs.length := (hf 12 (by decide)).trans (by simp [upd_some])
    by_cases hlt : i < xs.length
    · have hlt' : (i : Int) < xs.length := by omega
      have hltb : i < bs.length := by omega
      have hwi : IntKind.i64.wrap ((i : Int) + 1) = ((i + 1 : Nat) : Int) := by rw [show ((i : Int) + 1) = ((i + 1 : Nat) : Int) from by omega]; exact wrap_nat (by omega)
      obtain ⟨p, hp, hlp⟩ := hv.at hlt
      obtain ⟨q, hq, hlq⟩ := hw.at hltb
      by_cases he : xs[i] = bs[i]
      · have hd : decide (((xs[i].toNat : Nat) : Int) = bs[i].toNat) = true := by simp [he]
        simp only [k16_a, WK, vop, evAll, evOpt, evParts, vbuiltin, vun, vextract, Nat.reduceLT, Nat.reduceEqDiff, ↓reduceIte, reduceCtorEq, Nat.reduceAdd, Int.reduceLT, Int.reduceNeg, valloc_std, noSB, vhot, h0, h1, h12, h13, hlt', hp, hq, hlp, hlq, hd, hwi]
        refine ⟨i + 1, ⟨rfl, hlt, ?_⟩, by omega⟩
        rw [List.take_succ_eq_append_getElem hlt, List.take_succ_eq_append_getElem hltb, htk, he]
      · have hd : decide (((xs[i].toNat : Nat) : Int) = bs[i].toNat) = false := by
          simp only [decide_eq_false_iff_not]
          intro h
          exact he (UInt8.toNat_inj.1 (by omega))
        simp only [k16_a, WK, vop, evAll, evOpt, evParts, vbuiltin, vun, vextract, Nat.reduceLT, Nat.reduceEqDiff, ↓reduceIte, reduceCtorEq, Nat.reduceAdd, Int.reduceLT, Int.reduceNeg, valloc_std, noSB, vhot, h0, h1, h12, h13, hlt', hp, hq, hlp, hlq, hd, hwi]
        have : xs ≠ bs := by rintro rfl; exact he rfl
        simp [this]
    · have hlt' : ¬ (i : Int) < xs.length := by omega
      simp only [k16_a, WK, vop, evAll, evOpt, evParts, vbuiltin, vun, vextract, Nat.reduceLT, Nat.reduceEqDiff, ↓reduceIte, reduceCtorEq, Nat.reduceAdd, Int.reduceLT, Int.reduceNeg, valloc_std, noSB, vhot, h0, h1, h12, h13, hlt']
      have : xs = bs := by
        rw [List.take_of_length_le (by omega), List.take_of_length_le (by omega)] at htk
        exact htk
      simp [this]
  · have hne : decide ((xs.length : Int) = bs.length) = false := by simp; omega
    simp only [k16_a, WK, vop, evAll, evOpt, evParts, vbuiltin, vun, vextract, Nat.reduceLT, Nat.reduceEqDiff, ↓reduceIte, reduceCtorEq, Nat.reduceAdd, Int.reduceLT, Int.reduceNeg, valloc_std, noSB, vhot, List.getD_cons_zero, List.getD_cons_succ, hv.len, hw.len, hne]
    have : xs ≠ bs := by rintro rfl; exact hlen rfl
    simp [this]
/-- A row of words, written or not. -/
theorem same4_does {v w : V} {xs bs : List UInt8} {σ : St} (hv : RB σ v xs) (hw : RB σ w bs) (hla : xs.length ≤ 140737488355328) : Does Tryd.prog prims 34 [v, w] σ (.ret (.bool (decide (xs = bs)))) σ := by
  apply k34_is.ret (by simp)
  by_cases hlen : xs.length = bs.length
  · have hne : decide ((xs.length : Int) = bs.length) = true := by simp [hlen]
    simp only [k34_a, WK, vop, evAll, evOpt, evParts, vbuiltin, vun, vextract, Nat.reduceLT, Nat.reduceEqDiff, ↓reduceIte, reduceCtorEq, Nat.reduceAdd, Int.reduceLT, Int.reduceNeg, valloc_std, noSB, vhot, List.getD_cons_zero, List.getD_cons_succ, hv.len, hw.len, hne]
    refine Ev.loopF (fun i e σ' => σ' = σ ∧ e 13 = .int .i64 (i : Nat) ∧ i ≤ xs.length ∧ xs.take i = bs.take i) (fun i => xs.length - i) 0 ⟨rfl, by simp [upd_some], by simp, by simp⟩ ?_
    rintro i e σ' ⟨rfl, h13, hi, htk⟩ hf
    have h0 : e 0 = v := (hf 0 (by decide)).trans (by simp [upd_some])
    have h1 : e 1 = w := (hf 1 (by decide)).trans (by simp [upd_some])
    have h12 : e 12 = .int .i64 xs.length := (hf 12 (by decide)).trans (by simp [upd_some])
    by_cases hlt : i < xs.length
    · have hlt' : (i : Int) < xs.length := by omega
      have hltb : i < bs.length := by omega
      have hwi : IntKind.i64.wrap ((i : Int) + 1) = ((i + 1 : Nat) : Int) := by rw [show ((i : Int) + 1) = ((i + 1 : Nat) : Int) from by omega]; exact wrap_nat (by omega)
      obtain ⟨p, hp, hlp⟩ := hv.at hlt
      obtain ⟨q, hq, hlq⟩ := hw.at hltb
      by_cases he : xs[i] = bs[i]
      · have hd : decide (((xs[i].toNat : Nat) : Int) = bs[i].toNat) = true := by simp [he]
        simp only [k34_a, WK, vop, evAll, evOpt, evParts, vbuiltin, vun, vextract, Nat.reduceLT, Nat.reduceEqDiff, ↓reduceIte, reduceCtorEq, Nat.reduceAdd, Int.reduceLT, Int.reduceNeg, valloc_std, noSB, vhot, h0, h1, h12, h13, hlt', hp, hq, hlp, hlq, hd, hwi]
        refine ⟨i + 1, ⟨rfl, hlt, ?_⟩, by omega⟩
        rw [List.take_succ_eq_append_getElem hlt, List.take_succ_eq_append_getElem hltb, htk, he]
      · have hd : decide (((xs[i].toNat : Nat) : Int) = bs[i].toNat) = false := by
          simp only [decide_eq_false_iff_not]
          intro h
          exact he (UInt8.toNat_inj.1 (by omega))
        simp only [k34_a, WK, vop, evAll, evOpt, evParts, vbuiltin, vun, vextract, Nat.reduceLT, Nat.reduceEqDiff, ↓reduceIte, reduceCtorEq, Nat.reduceAdd, Int.reduceLT, Int.reduceNeg, valloc_std, noSB, vhot, h0, h1, h12, h13, hlt', hp, hq, hlp, hlq, hd, hwi]
        have : xs ≠ bs := by rintro rfl; exact he rfl
        simp [this]
    · have hlt' : ¬ (i : Int) < xs.length := by omega
      simp only [k34_a, WK, vop, evAll, evOpt, evParts, vbuiltin, vun, vextract, Nat.reduceLT, Nat.reduceEqDiff, ↓reduceIte, reduceCtorEq, Nat.reduceAdd, Int.reduceLT, Int.reduceNeg, valloc_std, noSB, vhot, h0, h1, h12, h13, hlt']
      have : xs = bs := by
        rw [List.take_of_length_le (by omega), List.take_of_length_le (by omega)] at htk
        exact htk
      simp [this]
  · have hne : decide ((xs.length : Int) = bs.length) = false := by simp; omega
    simp only [k34_a, WK, vop, evAll, evOpt, evParts, vbuiltin, vun, vextract, Nat.reduceLT, Nat.reduceEqDiff, ↓reduceIte, reduceCtorEq, Nat.reduceAdd, Int.reduceLT, Int.reduceNeg, valloc_std, noSB, vhot, List.getD_cons_zero, List.getD_cons_succ, hv.len, hw.len, hne]
    have : xs ≠ bs := by rintro rfl; exact hlen rfl
    simp [this]
end Go.Proofs.YtnegdinonfjdfaaDoor.Q

/- SnapBack. -/
set_option linter.unusedVariables false
set_option linter.unusedSimpArgs false
set_option maxRecDepth 100000
namespace Go.Proofs.YtnegdinonfjdfaaDoor.Q
open Go Go.RowKit Go.Proofs
theorem enc_facts (n : Int) {body : List UInt8} (hl : body.length ≤ 100000000) : w4 (encS n body) 0 = BitVec.ofInt 32 n ∧ (w4 (encS n body) 4).toNat = body.length := by
  have ht8 : (encS n body).take 8 = headS n body := List.take_left' (headS_len n body)
  have h0 : w4 (encS n body) 0 = BitVec.ofInt 32 n := w4_of (by
    have : ((encS n body).drop 0).take 4 = ((encS n body).take 8).take 4 := by rw [List.take_take]; simp
    rw [this, ht8]; rfl)
  have h4 : w4 (encS n body) 4 = BitVec.ofNat 32 body.length := w4_of (by
    have : ((encS n body).drop 4).take 4 = ((encS n body).take 8).drop 4 := by rw [List.drop_take]
    rw [this, ht8]; rfl)
  refine ⟨h0, ?_⟩
  rw [h4, BitVec.toNat_ofNat, Nat.mod_eq_of_lt (by omega)]
theorem w4_take {b : List UInt8} {i k : Nat} (h : i + 4 ≤ k) : w4 (b.take k) i = w4 b i := by
  have hg : ∀ j, j < k → (b.take k).getD j 0 = b.getD j 0 := fun j hj => by
    rw [List.getD_eq_getElem?_getD, List.getD_eq_getElem?_getD, List.getElem?_take_of_lt hj]
  unfold w4
  rw [hg i (by omega), hg (i + 1) (by omega), hg (i + 2) (by omega), hg (i + 3) (by omega)]
theorem w4_app {b c : List UInt8} {i : Nat} (h : i + 4 ≤ b.length) : w4 (b ++ c) i = w4 b i := by
  have hg : ∀ j, j < b.length → (b ++ c).getD j 0 = b.getD j 0 := fun j hj => by
    rw [List.getD_eq_getElem?_getD, List.getD_eq_getElem?_getD, List.getElem?_append_left hj]
  unfold w4
  rw [hg i (by omega), hg (i + 1) (by omega), hg (i + 2) (by omega), hg (i + 3) (by omega)]
theorem dec_bad {n : Int} {body : List UInt8} (hn : n < 0 ∨ 999999999 < n) (hl : body.length ≤ 100000000) : decS n (encS n body) = ([], 11) := by
  obtain ⟨h0, h4⟩ := enc_facts n hl
  have hlen := encS_len n body
  unfold decS
  rw [h4, if_neg (by omega), if_neg (by omega), if_pos (by rcases hn with h | h; exact .inr (.inl h); exact .inr (.inr (.inl h)))]
theorem dec_prefix {n m : Int} {body : List UInt8} (hl : body.length ≤ 100000000) {i : Nat} (hi : i < (encS n body).length) : decS m ((encS n body).take i) = ([], 10) := by
  obtain ⟨h0, h4⟩ := enc_facts n hl
  have hlen := encS_len n body
  have htl : ((encS n body).take i).length = i := by rw [List.length_take]; omega
  unfold decS
  by_cases h12 : i < 12
  · rw [if_pos (by omega)]
  · rw [if_neg (by omega), if_pos (by rw [w4_take (by omega), h4]; omega)]
theorem dec_more {n : Int} {body c : List UInt8} (hl : body.length ≤ 100000000) (hc : c ≠ []) : decS n (encS n body ++ c) = ([], 11) := by
  obtain ⟨h0, h4⟩ := enc_facts n hl
  have hlen := encS_len n body
  have hcl : 0 < c.length := by
    cases c with
    | nil => exact absurd rfl hc
    | cons => simp
  have hw : (w4 (encS n body ++ c) 4).toNat = body.length := by rw [w4_app (by omega), h4]
  have hal : (encS n body ++ c).length = 12 + body.length + c.length := by rw [List.length_append, hlen]
  unfold decS
  rw [hw, if_neg (by omega), if_neg (by omega), if_pos (.inl (by omega))]
theorem dec_other {n m : Int} {body : List UInt8} (hn : 0 ≤ n ∧ n ≤ 999999999) (hl : body.length ≤ 100000000) (hne : m ≠ n) : (decS m (encS n body)).2 ≠ 0 := by
  obtain ⟨h0, h4⟩ := enc_facts n hl
  have hlen := encS_len n body
  unfold decS
  rw [h4, if_neg (by omega), if_neg (by omega), if_pos]
  · decide
  · by_cases h1 : m < 0
    · exact .inr (.inl h1)
    by_cases h2 : 999999999 < m
    · exact .inr (.inr (.inl h2))
    refine .inr (.inr (.inr fun h => hne ?_))
    rw [h0] at h
    have := congrArg BitVec.toNat h
    rw [BitVec.toNat_ofInt, BitVec.toNat_ofInt] at this
    omega
theorem eqlB' (t : TypeId) (ht : t = 4) (a b : Operand) (x y : Bool) : vbin Tryd.prog .eql t a b (.bool x) (.bool y) = some (.bool (x == y)) := by
  subst ht
  cases x <;> cases y <;> kernel_rfl
theorem snapback_true : LawTrue Tryd.prog prims 4 [3, 22, 3] := by
  intro args hA hb
  match args, hA with
  | [vn, x, vm], ⟨hx, hx2, hx3, _⟩ =>
    obtain ⟨n, rfl, hn⟩ : ∃ n : Int, vn = .int .i64 n ∧ InI64 n := int_arg T3 hx
    obtain ⟨m, rfl, hm⟩ : ∃ n : Int, vm = .int .i64 n ∧ InI64 n := int_arg T3 hx3
    obtain ⟨body, hB, hl⟩ := bytes_arg (P := Tryd.prog) T22 T5 C5 hx2
    simp only [vbulks] at hb
    have hlb := hB.len T22
    have key : ∃ r σ', Does Tryd.prog prims 4 [.int .i64 n, x, .int .i64 m] st0 r σ' ∧ r = .ret (.bool true) := by
      apply k4_is.does (by simp)
      obtain ⟨s1, hwk⟩ := wakes_does
      simp only [k4_a, WK, vop, evAll, evOpt, evParts, vbuiltin, vun, vextract, Nat.reduceLT, Nat.reduceEqDiff, ↓reduceIte, reduceCtorEq, Nat.reduceAdd, Int.reduceLT, Int.reduceNeg, valloc_std, noSB, vhot, List.getD_cons_zero, List.getD_cons_succ]
      refine KD.ret hwk ?_
      by_cases hbig : 4096 < body.length
      · have hbig' : (4096 : Int) < (body.length : Nat) := by omega
        simp only [k4_a, WK, vop, evAll, evOpt, evParts, vbuiltin, vun, vextract, Nat.reduceLT, Nat.reduceEqDiff, ↓reduceIte, reduceCtorEq, Nat.reduceAdd, Int.reduceLT, Int.reduceNeg, valloc_std, noSB, vhot, List.getD_cons_zero, List.getD_cons_succ, Bool.not_true, hlb, hbig', decide_true]
      have hbig' : ¬ (4096 : Int) < (body.length : Nat) := by omega
      have hel := encS_len n body
      obtain ⟨q2, s2, d2, v2, rfl, o2, k2⟩ := encode_sees (σ := s1) (n := n) hB (by omega)
      obtain ⟨q3, s3, d3, v3, rfl, o3, k3⟩ := decode_sees (σ := s2) (n := n) o2 (by omega)
      have hl2 := o2.len T22
      have oe : ofVal (Value.string { data := #[] }) = some (.str []) := rfl
      simp only [k4_a, WK, vop, evAll, evOpt, evParts, vbuiltin, vun, vextract, Nat.reduceLT, Nat.reduceEqDiff, ↓reduceIte, reduceCtorEq, Nat.reduceAdd, Int.reduceLT, Int.reduceNeg, valloc_std, noSB, vhot, List.getD_cons_zero, List.getD_cons_succ, Bool.not_true, hlb, hbig', decide_false]
      refine KD.ret d2 ?_
      simp only [k4_a, WK, vop, evAll, evOpt, evParts, vbuiltin, vun, vextract, Nat.reduceLT, Nat.reduceEqDiff, ↓reduceIte, reduceCtorEq, Nat.reduceAdd, Int.reduceLT, Int.reduceNeg, valloc_std, noSB, vhot, List.getD_cons_zero, List.getD_cons_succ]
      refine KD.ret d3 ?_
      simp only [k4_a, WK, vop, evAll, evOpt, evParts, vbuiltin, vun, vextract, Nat.reduceLT, Nat.reduceEqDiff, ↓reduceIte, reduceCtorEq, Nat.reduceAdd, Int.reduceLT, Int.reduceNeg, valloc_std, noSB, vhot, List.getD_cons_zero, List.getD_cons_succ]
      refine KD.ret (sname_does n) ?_
      by_cases hr : n < 0 ∨ 999999999 < n
      · have hnm : nameP 115 0 n = [] := by unfold nameP; rw [if_pos hr]
        have hd := dec_bad (body := body) hr (by omega)
        rw [hd]
        simp only [k4_a, WK, vop, evAll, evOpt, evParts, vbuiltin, vun, vextract, Nat.reduceLT, Nat.reduceEqDiff, ↓reduceIte, reduceCtorEq, Nat.reduceAdd, Int.reduceLT, Int.reduceNeg, valloc_std, noSB, vhot, List.getD_cons_zero, List.getD_cons_succ, oe, sbE, hnm, eq_self, decide_true]
        rfl
      have hnm : ¬ nameP 115 0 n = [] := by unfold nameP; rw [if_neg hr]; intro h; cases h
      have hd := dec_enc (n := n) (body := body) (by omega) (by omega)
      have sm1 := same5_does (.inl o3.bts : RB s3 v3 _) (.inl hB : RB s3 x body) (by rw [hd]; show body.length ≤ _; omega)
      rw [hd] at sm1 ⊢
      rw [decide_eq_true rfl] at sm1
      simp only [k4_a, WK, vop, evAll, evOpt, evParts, vbuiltin, vun, vextract, Nat.reduceLT, Nat.reduceEqDiff, ↓reduceIte, reduceCtorEq, Nat.reduceAdd, Int.reduceLT, Int.reduceNeg, valloc_std, noSB, vhot, List.getD_cons_zero, List.getD_cons_succ, oe, sbE, hnm, Int.natCast_zero, eq_self, decide_true, decide_false, Bool.not_true]
      refine KD.ret sm1 ?_
      simp only [k4_a, WK, vop, evAll, evOpt, evParts, vbuiltin, vun, vextract, Nat.reduceLT, Nat.reduceEqDiff, ↓reduceIte, reduceCtorEq, Nat.reduceAdd, Int.reduceLT, Int.reduceNeg, valloc_std, noSB, vhot, List.getD_cons_zero, List.getD_cons_succ, Bool.not_true]
      refine Ev.loopF (fun (i : Nat) e s => e 10 = .int .i64 (i : Nat) ∧ i ≤ (encS n body).length) (fun i => (encS n body).length - i) 0 ?_ ?_
      · exact ⟨by simp [upd_some], Nat.zero_le _⟩
      rintro i e s ⟨h10, hi⟩ hf
      have g0 : e 0 = .int .i64 n := (hf 0 (by decide)).trans (by simp [upd_some])
      have g2 : e 2 = .int .i64 m := (hf 2 (by decide)).trans (by simp [upd_some])
      have g7 : e 7 = v2 := (hf 7 (by decide)).trans (by simp [upd_some])
      clear hf
      by_cases hlt : i < (encS n body).length
      · have hlt' : (i : Int) < ((encS n body).length : Nat) := by omega
        have hwi : IntKind.i64.wrap ((i : Int) + 1) = ((i + 1 : Nat) : Int) := by rw [wrap_i64 (by omega) (by omega)]; omega
        obtain ⟨vp, hp, bp⟩ := o2.slice (t := 22) T22 S5 (vbounds_hi (k := .i64) (n := (i : Int)) (len := (encS n body).length) (by omega) (by omega)) (by omega) (by omega)
        rw [Int.toNat_natCast, List.drop_zero, Nat.sub_zero] at bp
        obtain ⟨q4, s4, d4, v4, rfl, o4, k4⟩ := decode_sees (σ := s) (n := n) bp (by rw [List.length_take]; omega)
        have hd4 := dec_prefix (n := n) (m := n) (body := body) (by omega) hlt
        rw [hd4] at d4
        have d4 : Does Tryd.prog prims 12 [.int .i64 n, vp] s (.ret (.tuple [v4, .int .i64 10])) s4 := d4
        simp only [k4_a, WK, vop, evAll, evOpt, evParts, vbuiltin, vun, vextract, Nat.reduceLT, Nat.reduceEqDiff, ↓reduceIte, reduceCtorEq, Nat.reduceAdd, Int.reduceLT, Int.reduceNeg, valloc_std, noSB, vhot, List.getD_cons_zero, List.getD_cons_succ, h10, g7, g0, hl2, hlt', decide_true, T22, hp]
        refine KD.ret d4 ?_
        simp only [k4_a, WK, vop, evAll, evOpt, evParts, vbuiltin, vun, vextract, Nat.reduceLT, Nat.reduceEqDiff, ↓reduceIte, reduceCtorEq, Nat.reduceAdd, Int.reduceLT, Int.reduceNeg, valloc_std, noSB, vhot, List.getD_cons_zero, List.getD_cons_succ, eq_self, decide_true, Bool.not_true, h10, hwi]
        exact ⟨i + 1, ⟨by simp [upd_some], by omega⟩, by omega⟩
      · have hlt' : ¬ (i : Int) < ((encS n body).length : Nat) := by omega
        obtain ⟨v5, s5, a1, a2, a3, a4⟩ := OwnV.append' (P := Tryd.prog) (t := 22) (t2 := 22) BT (σ := s) (show OwnV 5 s.toks.length s (.slice .exact 1 [] 0) [] from .inr ⟨.exact, rfl, .inl rfl⟩) (σ0 := s) rfl (Keep.refl s) T22 o2 (by simp; omega)
        rw [List.nil_append] at a2
        obtain ⟨b1, b2⟩ := buildByte (P := Tryd.prog) BT (n := 0) (by omega)
        have b1 : vbuildSlice Tryd.prog 22 1 [(0, .int .u8 0)] = some (.slice .exact 1 [.int .u8 0] 1) := b1
        have b2 : BtsV (.slice .exact 1 [.int .u8 0] 1) [UInt8.ofNat 0] := b2
        obtain ⟨v6, s6, c1, c2, c3, c4⟩ := a2.append' BT (σ0 := s) rfl a3 T22 b2 (by simp; omega)
        obtain ⟨q7, s7, d7, v7, rfl, o7, k7⟩ := decode_sees (σ := s6) (n := n) c2.bts (by simp; omega)
        have hd7 := dec_more (n := n) (body := body) (c := [UInt8.ofNat 0]) (by omega) (by simp)
        rw [hd7] at d7
        have d7 : Does Tryd.prog prims 12 [.int .i64 n, v6] s6 (.ret (.tuple [v7, .int .i64 11])) s7 := d7
        obtain ⟨q8, s8, d8, v8, rfl, o8, k8⟩ := decode_sees (σ := s7) (n := m) o2 (by omega)
        simp only [k4_a, WK, vop, evAll, evOpt, evParts, vbuiltin, vun, vextract, Nat.reduceLT, Nat.reduceEqDiff, ↓reduceIte, reduceCtorEq, Nat.reduceAdd, Int.reduceLT, Int.reduceNeg, valloc_std, noSB, vhot, List.getD_cons_zero, List.getD_cons_succ, h10, g7, g0, hl2, hlt', decide_false, build0 BT, a1, b1, c1]
        refine KD.ret d7 ?_
        simp only [k4_a, WK, vop, evAll, evOpt, evParts, vbuiltin, vun, vextract, Nat.reduceLT, Nat.reduceEqDiff, ↓reduceIte, reduceCtorEq, Nat.reduceAdd, Int.reduceLT, Int.reduceNeg, valloc_std, noSB, vhot, List.getD_cons_zero, List.getD_cons_succ, g7, g2]
        refine KD.ret d8 ?_
        by_cases hmn : m = n
        · subst hmn
          rw [hd]
          simp only [k4_a, WK, vop, evAll, evOpt, evParts, vbuiltin, vun, vextract, Nat.reduceLT, Nat.reduceEqDiff, ↓reduceIte, reduceCtorEq, Nat.reduceAdd, Int.reduceLT, Int.reduceNeg, valloc_std, noSB, vhot, List.getD_cons_zero, List.getD_cons_succ, g0, g2, Int.natCast_zero, eq_self, decide_true, eqlB' 4 rfl, beq_self_eq_true]
        · have hd8 := dec_other (n := n) (m := m) (body := body) (by omega) (by omega) hmn
          have hd8' : ¬ (((decS m (encS n body)).2 : Nat) : Int) = 0 := by omega
          simp only [k4_a, WK, vop, evAll, evOpt, evParts, vbuiltin, vun, vextract, Nat.reduceLT, Nat.reduceEqDiff, ↓reduceIte, reduceCtorEq, Nat.reduceAdd, Int.reduceLT, Int.reduceNeg, valloc_std, noSB, vhot, List.getD_cons_zero, List.getD_cons_succ, g0, g2, hd8', hmn, eq_self, decide_true, decide_false, eqlB' 4 rfl, beq_self_eq_true]
    obtain ⟨r, σ', ⟨m, h⟩, rfl⟩ := key
    exact ⟨m, σ', h⟩
end Go.Proofs.YtnegdinonfjdfaaDoor.Q

/- What the rows' lists of variables give, and a world that meets them. -/
set_option linter.unusedVariables false
set_option linter.unusedSimpArgs false
set_option maxRecDepth 100000
namespace Go.Proofs.YtnegdinonfjdfaaDoor.Q
open Go Go.RowKit Go.Proofs Go.ChangeShapes Go.WideShapes Go.ChangeAt
noncomputable abbrev listL : List (String × DataW Unit) := Rows.snapBytesUptoRow.laid
theorem only_half : (listL.filter fun x => x.1 == "quern/crc.half") = [("quern/crc.half", Lib.tabData .u32 (half.map fun n : Nat => (n : Int)))] := by kernel_rfl
theorem only_pow : (listL.filter fun x => x.1 == "internal/strconv.uint64pow10") = [("internal/strconv.uint64pow10", Lib.tabData .u64 Lib.pow10Tab)] := by kernel_rfl
theorem only_err : (listL.filter fun x => x.1 == "strconv.ErrSyntax") = [("strconv.ErrSyntax", .iface "*errors.errorString" (.ptr (.agg [.lit (.string [105, 110, 118, 97, 108, 105, 100, 32, 115, 121, 110, 116, 97, 120])])))] := by kernel_rfl
theorem starErr : "*" ++ "errors.errorString" = "*errors.errorString" := by decide
theorem rowErr (u : TypeId) (h : Tryd.prog.typeName? 3 u = some "*errors.errorString") : u = 151 :=
  typeName_ptr_named (nm := "errors.errorString") (by rw [starErr]; kernel_rfl) (by kernel_rfl) (by decide) u (by rw [starErr]; exact h)
theorem lays_of {W : World} (h : laidMetH Tryd.prog listL W) : Lays W.heap.size W := by
  have h1 := h.filter fun x => x.1 == "quern/crc.half"
  have h2 := h.filter fun x => x.1 == "internal/strconv.uint64pow10"
  have h3 := h.filter fun x => x.1 == "strconv.ErrSyntax"
  rw [only_half] at h1
  rw [only_pow] at h2
  rw [only_err] at h3
  have t1 : Lib.TabIs Tryd.prog W "quern/crc.half" .u32 (half.map fun n : Nat => (n : Int)) := Lib.tabIs_of_head (rest := []) (g := 0) (by kernel_rfl) (by kernel_rfl) pTA pTU (by kernel_rfl) (by kernel_rfl) h1
  have t2 : Lib.TabIs Tryd.prog W "internal/strconv.uint64pow10" .u64 Lib.pow10Tab := Lib.tabIs_of_head (rest := []) (g := 1) (by kernel_rfl) (by kernel_rfl) Tryd.underlying134 Tryd.underlying64 (by kernel_rfl) (by kernel_rfl) h2
  obtain ⟨a, s, hv, _⟩ := laid_sentinel (r := []) (g := 2) h3 (by kernel_rfl) (by kernel_rfl) Tryd.underlying97 rowErr Tryd.underlying151 Tryd.underlying153 rfl rfl Tryd.underlying9 (by kernel_rfl) (by kernel_rfl)
  have hg2 : Tryd.prog.globalNamed "strconv.ErrSyntax" = some 2 := by kernel_rfl
  have hc2 : W.cell? ⟨2, 0, none⟩ = some (.iface 151 (.pointer (some a))) := by
    have := World.var?_cell hg2 hv 0
    simpa using this
  refine ⟨?_, fun i hi => ?_, t2, _, hc2, .inr ⟨_, _, rfl⟩⟩
  · have := World.block_lt_of_cell? _ _ hc2
    simp only at this
    omega
  · have hg : Tryd.prog.globalNamed "quern/crc.half" = some 0 := by kernel_rfl
    have := t1.cell hg i hi
    have e : ∀ j : Fin 16, (half.map fun n : Nat => (n : Int)).getD j.val 0 = ((half.getD j.val 0 : Nat) : Int) := by decide
    rw [e ⟨i, hi⟩] at this
    exact this
section
variable {H : Type} {enc : TypeId × Value → H} {P : Program}
theorem law_callsW {pr : Prim} {W : World} (hp : PrimOk P pr W.heap.size W) (hl : laidOutB P = true) {S : List TypeId} (hS : plainS P S = true) {F : FuncId} {ts : List TypeId} (hts : ∀ t, t ∈ ts → t ∈ S) (h20 : ts.length ≤ 20) (hT : LawTrue P pr F ts) {r : Reach} {b : Nat} {args : Array Value} {ds : List (DataW H)} {ps : List MemPlace}
    (hval : ∀ (j : Nat) t v, ts[j]? = some t → args.toList[j]? = some v → Value.okWide P W r b t v) (hA : DataW.TrodAll enc P W 0 (fun _ => true) true ts args.toList ds ps) (hk : Rows.uptoBulkAll ds ≤ 1048576) :
    Calls P F args W fun e W' => e = .returned (.bool true) ∧ Below W.heap.size W W' := by
  obtain ⟨xs, h1, h2, h3⟩ := args_V hl hS hts hval hA
  obtain ⟨n, σ', hn⟩ := hT xs h2 (by omega)
  have := vcall_sound hp hn (gh0 W) W args.toList (rel0 W) h1
  rw [Array.toArray_toList] at this
  refine this.mono fun e W' ⟨g', hE, hR, u, he, hV⟩ => ?_
  simp only [VR] at hV
  subst hV
  exact ⟨he, hR.below⟩
end
/-! ### A world that meets them -/
def cellsD : DataW Unit → Array Value
  | .agg l => (l.map fun | .lit (.int k z) => Value.int k z | _ => undef).toArray
  | _ => #[]
noncomputable def low : Nat := (World.holding Tryd.prog default ⟨#[], #[], []⟩).heap.size
def textR : ByteArray := ⟨#[118, 97, 108, 117, 101, 32, 111, 117, 116, 32, 111, 102, 32, 114, 97, 110, 103, 101]⟩
def textS : ByteArray := ⟨#[105, 110, 118, 97, 108, 105, 100, 32, 115, 121, 110, 116, 97, 120]⟩
noncomputable def laidWorld (os : Os) : World :=
  let w0 := World.holding Tryd.prog os ⟨#[.cells #[.string textR] 153, .cells #[.string textS] 153], #[], []⟩
  let put (h : Array Obj) (g : Nat) (cs : Array Value) : Array Obj := h.modify g fun
    | .cells _ t frozen => .cells cs t frozen
    | o => o
  let h1 := put w0.heap 0 (cellsD Rows.laid_quern_crc_half)
  let h2 := put h1 1 (cellsD Rows.laid_internal_strconv_uint64pow10)
  let h3 := put h2 2 #[.iface 151 (.pointer (some ⟨low + 1, 0, none⟩))]
  let h4 := put h3 3 #[.iface 151 (.pointer (some ⟨low, 0, none⟩))]
  let h5 := put h4 4 (cellsD Rows.laid_math_bits_deBruijn32tab)
  let h6 := put h5 5 (cellsD Rows.laid_math_bits_deBruijn64tab)
  { w0 with heap := h6 }
theorem laid_met (os : Os) (args : Array Value) : laidMet Tryd.prog listL ((laidWorld os).forCall (fun _ _ => 0) ⟨#[], args, []⟩).memory :=
  laidMet_of_run' 8 (by kernel_rfl) (by kernel_rfl)
end Go.Proofs.YtnegdinonfjdfaaDoor.Q

