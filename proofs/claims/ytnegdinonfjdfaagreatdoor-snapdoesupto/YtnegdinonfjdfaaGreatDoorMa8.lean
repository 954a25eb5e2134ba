/- A part of the proof: Ke, Kf, Kg, Kh, Ki, Kj, Kk, Rw, Kl, Sa, Sb, Sc, Sd, Se, Sf, Za. -/
import Derived.Test.YtnegdinonfjdfaaGreatDoorMa7
import Derived.Test.YtnegdinonfjdfaaGreatDoorMa5
set_option linter.unusedVariables false
set_option linter.unusedSimpArgs false
set_option maxRecDepth 100000
namespace Go.Proofs.YtnegdinonfjdfaaGreatDoor.Q
open Go Go.RowKit Go.Proofs
theorem SBB : sizeT Tryz.prog 30 = some 1 := pSB
theorem bInfo : (Tryz.prog.info? 5).map (·.bytes) = some 1 := by kernel_rfl
theorem bZero : zeroT Tryz.prog 5 = some (.int .u8 0) := by kernel_rfl
theorem rowApp {σ : St} {s w' : V} {q : Option Nat} {cs ys : List V} (h : rowOf σ.objs s = some (q, cs)) (hw : vnewsO Tryz.prog σ.objs 30 w' 1 = some (ys, ys.length)) (ho : ys.all one = true) (hl : cs.length + ys.length ≤ 140737488355328) :
    ∃ s' q' σ', vappendRow Tryz.prog σ 30 30 s w' = some (s', σ') ∧ rowOf σ'.objs s' = some (q', cs ++ ys) ∧ KS q.toList σ σ' ∧ (∀ x ∈ q'.toList, x ∈ q.toList ∨ σ.objs.length ≤ x) ∧ one s' = true := by
  have ha := off_append (toks := σ.toks) h hw ho hl
  by_cases h0 : ys = []
  · rw [if_pos h0] at ha
    refine ⟨s, q, σ, ha, by rw [h0, List.append_nil]; exact h, KS.refl _ _, fun x hx => .inl hx, ?_⟩
    rcases rowOf_spec h with ⟨rfl, _⟩ | ⟨r, full, rfl, _⟩ <;> rfl
  · rw [if_neg h0] at ha
    refine ⟨_, some σ.objs.length, _, ha, ?_, ⟨fun r o hr ho => ?_, ?_, Nat.le_refl _, fun _ h => h⟩, fun x hx => ?_, rfl⟩
    · have e : (applyW (q.toList.map (·, Ob.dead)) σ.objs).length = σ.objs.length := applyW_len _ _
      have := push_new (applyW (q.toList.map (·, Ob.dead)) σ.objs) (.cells (cs ++ ys))
      rw [e] at this
      simp only [rowOf, this, List.length_append, Nat.le_refl, ↓reduceIte]
      rw [List.take_of_length_le (by simp)]
    · have hrl := (gA0.1 ho).1
      simp only
      rw [gA2 (by rw [applyW_len]; exact hrl), applyW_ne]
      · exact ho
      · rw [List.map_map]
        intro hx
        obtain ⟨y, hy, rfl⟩ := List.mem_map.1 hx
        exact hr hy
    · simp only [List.length_append, applyW_len]; omega
    · simp at hx; exact .inr (by omega)
theorem rowOf_one {objs : List Ob} {v : V} {q : Option Nat} {cs : List V} (h : rowOf objs v = some (q, cs)) : one v = true := by
  rcases rowOf_spec h with ⟨rfl, _⟩ | ⟨r, full, rfl, _⟩ <;> rfl
theorem rowOf_len {objs : List Ob} {v : V} {q : Option Nat} {cs : List V} (h : rowOf objs v = some (q, cs)) : vlen Tryz.prog 30 v = some (.int .i64 (cs.length : Nat)) := by
  rcases rowOf_spec h with ⟨rfl, rfl, rfl⟩ | ⟨r, full, rfl, _⟩ <;> simp [vlen, pTB]
theorem rowOf_rl {objs : List Ob} {v : V} {q : Option Nat} {cs : List V} (h : rowOf objs v = some (q, cs)) : rowLen v = some cs.length := by
  rcases rowOf_spec h with ⟨rfl, rfl, rfl⟩ | ⟨r, full, rfl, _⟩ <;> simp [rowLen]
theorem rowOf_rb {σ : St} {v : V} {q : Option Nat} {bs : List UInt8} (h : rowOf σ.objs v = some (q, bs.map byteV)) : RB σ v bs := by
  rcases rowOf_spec h with ⟨rfl, rfl, h0⟩ | ⟨r, full, rfl, rfl, hr, hl, hc⟩
  · exact .inl (.inl ⟨rfl, List.map_eq_nil_iff.1 h0⟩)
  · simp only [List.length_map] at hl hc ⊢
    exact .inr ⟨r, 0, full, rfl, hr, by omega, by rw [List.drop_zero]; exact hc.symm⟩
theorem rowOf_frame {objs objs2 : List Ob} {v : V} {q : Option Nat} {cs : List V} (h : rowOf objs v = some (q, cs)) (hk : ∀ x ∈ q.toList, ∀ o, objs[x]? = some o → objs2[x]? = some o) : rowOf objs2 v = some (q, cs) := by
  rcases rowOf_spec h with ⟨rfl, rfl, rfl⟩ | ⟨r, full, e1, e2, hr, hl, hc⟩
  · rfl
  · exact rowOf_eq h fun x hx => by
      rw [e2] at hx; injection hx with hx; subst hx
      rw [hr]; exact hk _ (by simp [e2]) _ hr
theorem flat_mid (a b : List Ent) (p : Ent) : ((a ++ p :: b).flatMap fun p => p.2.ids) = (a.flatMap fun p => p.2.ids) ++ (p.2.ids ++ b.flatMap fun p => p.2.ids) := by simp
theorem nodup_mid {A I J B : List Nat} {n : Nat} (h : (A ++ (I ++ B)).Nodup) (hl : ∀ x ∈ A ++ (I ++ B), x < n) (hj : J.Nodup) (hs : ∀ x ∈ J, x ∈ I ∨ n ≤ x) : (A ++ (J ++ B)).Nodup := by
  rw [List.nodup_append, List.nodup_append] at h ⊢
  obtain ⟨h1, ⟨h2, h3, h4⟩, h5⟩ := h
  refine ⟨h1, ⟨hj, h3, fun x hx y hy e => ?_⟩, fun x hx y hy e => ?_⟩
  · rcases hs x hx with h | h
    · exact h4 x h y hy e
    · have := hl y (by simp [hy]); omega
  · rcases List.mem_append.1 hy with hy | hy
    · rcases hs y hy with h | h
      · exact h5 x hx y (List.mem_append_left _ h) e
      · have := hl x (by simp [hx]); omega
    · exact h5 x hx y (List.mem_append_right _ hy) e
theorem putF_perm {l : List Fl} {f x : Fl} {A B : List Fl} (hr : l.Pairwise fun f g => f.name < g.name) (hp : (A ++ f :: B).Perm l) (hx : x.name = f.name) : (A ++ x :: B).Perm (putF x l) := by
  have hnl : (l.map Fl.name).Nodup := by
    rw [List.nodup_iff_pairwise_ne, List.pairwise_map]
    exact hr.imp fun {f g} hlt (he : f.name = g.name) => lt_irrefl' f.name (by rw [← he] at hlt; exact hlt)
  have hn2 : ((putF x l).map Fl.name).Nodup := by
    rw [List.nodup_iff_pairwise_ne, List.pairwise_map]
    exact (rise_putF hr).imp fun {f g} hlt (he : f.name = g.name) => lt_irrefl' f.name (by rw [← he] at hlt; exact hlt)
  have hn1 : ((A ++ f :: B).map Fl.name).Nodup := (hp.map _).nodup_iff.2 hnl
  have hn3 : ((A ++ x :: B).map Fl.name).Nodup := by
    simp only [List.map_append, List.map_cons, hx] at hn1 ⊢
    exact hn1
  refine fl_perm hn3 hn2 fun g => ?_
  rw [mem_putF, ← hp.mem_iff, List.mem_append, List.mem_cons, List.mem_append, List.mem_cons]
  have hA : ∀ g, g ∈ A → g.name ≠ x.name := fun g hg e => by
    simp only [List.map_append, List.map_cons] at hn3
    rw [List.nodup_append] at hn3
    exact hn3.2.2 _ (List.mem_map_of_mem hg) _ (List.mem_cons_self ..) e
  have hB : ∀ g, g ∈ B → g.name ≠ x.name := fun g hg e => by
    simp only [List.map_append, List.map_cons] at hn3
    rw [List.nodup_append, List.nodup_cons] at hn3
    exact hn3.2.1.1 (by rw [← e]; exact List.mem_map_of_mem hg)
  constructor
  · rintro (h | rfl | h)
    · exact .inr ⟨.inl h, hA g h⟩
    · exact .inl rfl
    · exact .inr ⟨.inr (.inr h), hB g h⟩
  · rintro (rfl | ⟨h | rfl | h, h2⟩)
    · exact .inr (.inl rfl)
    · exact .inl h
    · exact absurd hx.symm h2
    · exact .inr (.inr h)
theorem DiskAt.change {σ σ' : St} {r rm : Nat} {d d2 : Dk} {fs a b : List Ent} {p p' : Ent} {n : List UInt8} (h : DiskAt σ r d rm fs) (hok : d.Ok) (hA : Has d fs a b p n) (hk : KS p.2.ids σ σ') (hF : FAt σ'.objs p') (hrf : p'.2.rf = p.2.rf) (hn : p'.1.name = n)
    (hnd : p'.2.ids.Nodup) (hids : ∀ x ∈ p'.2.ids, x ∈ p.2.ids ∨ σ.objs.length ≤ x) (hd2 : d2 = { d with files := putF p'.1 d.files }) : DiskAt σ' r d2 rm (a ++ p' :: b) ∧ KS (foot r rm fs) σ σ' ∧ ∀ x ∈ foot r rm (a ++ p' :: b), x ∈ foot r rm fs ∨ σ.objs.length ≤ x := by
  have hlt := h.lt
  have hN := h.nd
  have hfs := hA.e
  subst hfs
  have hpm := h.pm
  have hN0 := hN
  unfold foot at hN
  rw [List.nodup_cons, List.nodup_cons, flat_mid] at hN
  obtain ⟨n1, n2, n3⟩ := hN
  have hdj : ∀ q ∈ a ++ b, ∀ x ∈ q.2.ids, x ∉ p.2.ids := by
    intro q hq x hx hx2
    rw [List.nodup_append, List.nodup_append] at n3
    rcases List.mem_append.1 hq with hq | hq
    · exact n3.2.2 x (List.mem_flatMap.2 ⟨q, hq, hx⟩) x (List.mem_append_left _ hx2) rfl
    · exact n3.2.1.2.2 x hx2 x (List.mem_flatMap.2 ⟨q, hq, hx⟩) rfl
  have hpi : ∀ x ∈ p.2.ids, x ∈ foot r rm (a ++ p :: b) := fun x hx => by
    simp only [foot, List.mem_cons, List.mem_flatMap]
    exact .inr (.inr ⟨p, by simp, hx⟩)
  have hrp : r ∉ p.2.ids := fun hx => n1 (List.mem_cons_of_mem _ (by simp [hx]))
  have hmp : rm ∉ p.2.ids := fun hx => n2 (by simp [hx])
  have hfoot : ∀ x ∈ foot r rm (a ++ p' :: b), x ∈ foot r rm (a ++ p :: b) ∨ σ.objs.length ≤ x := by
    intro x hx
    simp only [foot, List.mem_cons, List.flatMap_append, List.flatMap_cons, List.mem_append] at hx ⊢
    rcases hx with hx | hx | hx | hx | hx
    · exact .inl (.inl hx)
    · exact .inl (.inr (.inl hx))
    · exact .inl (.inr (.inr (.inl hx)))
    · rcases hids x hx with h | h
      · exact .inl (.inr (.inr (.inr (.inl h))))
      · exact .inr h
    · exact .inl (.inr (.inr (.inr (.inr hx))))
  have hent : (a ++ p' :: b).map fent = (a ++ p :: b).map fent := by
    simp only [List.map_append, List.map_cons]
    rw [show fent p' = fent p by simp only [fent, hn, hA.nm, hrf]]
  refine ⟨⟨?_, ?_, fun q hq => ?_, ?_, ?_⟩, hk.mono fun x hx => .inl (hpi x hx), hfoot⟩
  · rw [hd2]; exact hk.ko _ _ hrp h.hd
  · rw [hent]; exact hk.ko _ _ hmp h.hm
  · by_cases hqp : q ∈ a ++ b
    · have hqm : q ∈ a ++ p :: b := by
        rcases List.mem_append.1 hqp with h | h <;> simp [h]
      exact (h.hf q hqm).frame fun x hx o ho => hk.ko _ _ (hdj q hqp x hx) ho
    · have : q = p' := by
        simp only [List.mem_append, List.mem_cons, not_or] at hq hqp
        rcases hq with h | h | h
        · exact absurd h hqp.1
        · exact h
        · exact absurd h hqp.2
      subst this
      exact hF
  · have hx := nodup_mid (n := σ.objs.length) (A := r :: rm :: a.flatMap fun p => p.2.ids) (I := p.2.ids) (J := p'.2.ids) (B := b.flatMap fun p => p.2.ids) (by
      unfold foot at hN0; rw [flat_mid] at hN0; exact hN0) (fun x hx => hlt x (by unfold foot; rw [flat_mid]; exact hx)) hnd hids
    unfold foot
    rw [flat_mid]
    exact hx
  · rw [hd2]
    simp only [List.map_append, List.map_cons] at hpm ⊢
    exact putF_perm hok.rise hpm (by rw [hn, hA.nm])
theorem FAt.upd {σ σa : St} {p : Ent} {s' w' : V} {qs qw : Option Nat} {f' : Fl} (h : FAt σ.objs p) (hk : KS (p.2.rs.toList ++ p.2.rw.toList) σ σa) (hnd : p.2.ids.Nodup) (hlt : ∀ x ∈ p.2.ids, x < σ.objs.length)
    (hs : rowOf σa.objs s' = some (qs, f'.safe.map byteV)) (hw : rowOf σa.objs w' = some (qw, f'.wait.map byteV)) (hq : ∀ x ∈ qs.toList ++ qw.toList, x ∈ p.2.rs.toList ++ p.2.rw.toList ∨ σ.objs.length ≤ x) (hqn : (qs.toList ++ qw.toList).Nodup) :
    ∃ p' : Ent, p'.1 = f' ∧ p'.2.rf = p.2.rf ∧ FAt (σa.objs.set p.2.rf (.cells [s', w'])) p' ∧ KS p.2.ids σ ⟨σa.objs.set p.2.rf (.cells [s', w']), σa.toks⟩ ∧ p'.2.ids.Nodup ∧ (∀ x ∈ p'.2.ids, x ∈ p.2.ids ∨ σ.objs.length ≤ x) ∧ σa.objs[p.2.rf]? = some (.cells [p.2.s, p.2.w]) := by
  have hrfl := hlt p.2.rf (by simp [FO.ids])
  simp only [FO.ids, List.nodup_cons] at hnd
  have hrf : p.2.rf ∉ qs.toList ++ qw.toList := fun hx => by
    rcases hq _ hx with h | h
    · exact hnd.1 h
    · omega
  have hoba : σa.objs[p.2.rf]? = some (.cells [p.2.s, p.2.w]) := hk.ko _ _ hnd.1 h.ob
  have hk1 : KS p.2.ids σ σa := hk.mono fun x hx => .inl (by simp only [FO.ids, List.mem_cons]; exact .inr hx)
  refine ⟨(f', ⟨p.2.rf, s', qs, f'.safe.map byteV, w', qw, f'.wait.map byteV⟩), rfl, rfl, ⟨obj_set hoba, ?_, ?_, rfl, rfl⟩, hk1.trans' (KS.set (.inl (by simp [FO.ids])) _), ?_, ?_, hoba⟩
  · refine rowOf_frame hs fun x hx o ho => ?_
    rw [gA3]
    · exact ho
    · rintro rfl; exact hrf (List.mem_append_left _ hx)
  · refine rowOf_frame hw fun x hx o ho => ?_
    rw [gA3]
    · exact ho
    · rintro rfl; exact hrf (List.mem_append_right _ hx)
  · simp only [FO.ids, List.nodup_cons]; exact ⟨hrf, hqn⟩
  · intro x hx
    simp only [FO.ids, List.mem_cons] at hx ⊢
    rcases hx with h | h
    · exact .inl (.inl h)
    · rcases hq x h with h | h
      · exact .inl (.inr h)
      · exact .inr h
def Next (σ : St) (r rm : Nat) (fs : List Ent) (σ' : St) (d' : Dk) : Prop := ∃ fs', DiskAt σ' r d' rm fs' ∧ KS (foot r rm fs) σ σ' ∧ ∀ x ∈ foot r rm fs', x ∈ foot r rm fs ∨ σ.objs.length ≤ x
theorem Next.refl {σ : St} {r rm : Nat} {d : Dk} {fs : List Ent} (h : DiskAt σ r d rm fs) : Next σ r rm fs σ d := ⟨fs, h, KS.refl _ _, fun x hx => .inl hx⟩
theorem Next.trans {σ σ1 σ2 : St} {r rm : Nat} {d : Dk} {fs fs1 : List Ent} (hk : KS (foot r rm fs) σ σ1) (hs : ∀ x ∈ foot r rm fs1, x ∈ foot r rm fs ∨ σ.objs.length ≤ x) (h : Next σ1 r rm fs1 σ2 d) : Next σ r rm fs σ2 d := by
  obtain ⟨fs', h1, h2, h3⟩ := h
  refine ⟨fs', h1, hk.trans h2 hs, fun x hx => ?_⟩
  have := hk.le
  rcases h3 x hx with h | h
  · exact hs x h
  · exact .inr (by omega)
theorem Has.ids {σ : St} {r rm : Nat} {d : Dk} {fs a b : List Ent} {p : Ent} {n : List UInt8} (h : DiskAt σ r d rm fs) (hA : Has d fs a b p n) : FAt σ.objs p ∧ p.2.ids.Nodup ∧ ∀ x ∈ p.2.ids, x < σ.objs.length := by
  have hp : p ∈ fs := by rw [hA.e]; simp
  have hN := h.nd
  unfold foot at hN
  rw [List.nodup_cons, List.nodup_cons, hA.e, flat_mid, List.nodup_append, List.nodup_append] at hN
  refine ⟨h.hf p hp, hN.2.2.2.1.1, fun x hx => h.lt x ?_⟩
  simp only [foot, List.mem_cons, List.mem_flatMap]
  exact .inr (.inr ⟨p, hp, hx⟩)
theorem DiskAt.upd {σ σa : St} {r rm : Nat} {d : Dk} {fs a b : List Ent} {p : Ent} {n : List UInt8} {s' w' : V} {qs qw : Option Nat} {f' : Fl} (h : DiskAt σ r d rm fs) (hok : d.Ok) (hA : Has d fs a b p n) (hk : KS (p.2.rs.toList ++ p.2.rw.toList) σ σa)
    (hs : rowOf σa.objs s' = some (qs, f'.safe.map byteV)) (hw : rowOf σa.objs w' = some (qw, f'.wait.map byteV)) (hq : ∀ x ∈ qs.toList ++ qw.toList, x ∈ p.2.rs.toList ++ p.2.rw.toList ∨ σ.objs.length ≤ x) (hqn : (qs.toList ++ qw.toList).Nodup) (hn : f'.name = n) :
    Next σ r rm fs ⟨σa.objs.set p.2.rf (.cells [s', w']), σa.toks⟩ { d with files := putF f' d.files } ∧ σa.objs[p.2.rf]? = some (.cells [p.2.s, p.2.w]) := by
  obtain ⟨g1, g2, g3⟩ := hA.ids h
  obtain ⟨p', e1, e2, e3, e4, e5, e6, e7⟩ := g1.upd hk g2 g3 hs hw hq hqn
  obtain ⟨i1, i2, i3⟩ := h.change hok hA e4 e3 e2 (by rw [e1, hn]) e5 e6 (d2 := { d with files := putF f' d.files }) (by rw [e1])
  exact ⟨⟨_, i1, i2, i3⟩, e7⟩
theorem Dk.Ok.head {d d2 : Dk} (h : d.Ok) (hf : d2.files = d.files) (ha : (d2.armed : Int) ≤ 9223372036854775807) (hr : InI64 d2.room) (hk : InI64 d2.keep) : d2.Ok := ⟨by rw [hf]; exact h.rise, by rw [hf]; exact h.nm, by rw [hf]; exact h.few, by rw [hf]; exact h.sm, ha, hr, hk⟩
theorem Dk.Ok.raw {d : Dk} (h : d.Ok) : (rawD d).2.Ok := by
  have := h.arm
  unfold rawD
  split
  · exact h.head rfl h.arm h.rm h.kp
  · exact h.head rfl (by simp only; omega) h.rm h.kp
theorem raw_files (d : Dk) : (rawD d).2.files = d.files ∧ (rawD d).2.keep = d.keep ∧ (rawD d).2.room = d.room ∧ (rawD d).2.on = d.on ∧ (rawD d).2.writes = d.writes + 1 := by
  unfold rawD
  split <;> exact ⟨rfl, rfl, rfl, rfl, rfl⟩
theorem Dk.Ok.off {d : Dk} (h : d.Ok) (k : Int) : (offD k d).Ok := by
  unfold offD
  split
  · refine ⟨?_, fun f hf => ?_, by simp only [List.length_map]; exact h.few, fun f hf => ?_, by simp, h.rm, h.kp⟩
    · simp only [List.pairwise_map]
      exact h.rise
    · obtain ⟨g, hg, rfl⟩ := List.mem_map.1 hf
      exact h.nm g hg
    · obtain ⟨g, hg, rfl⟩ := List.mem_map.1 hf
      have := h.sm g hg
      simp only [Fl.len, offF, List.length_append, List.length_take, List.length_nil] at this ⊢
      omega
  · exact h
theorem Dk.Ok.put {d : Dk} (h : d.Ok) {x : Fl} (hn : namedD x.name = true) (hs : x.len ≤ 1048576) (hl : (getF d.files x.name).isNone = true → d.files.length < 16) : ({ d with files := putF x d.files } : Dk).Ok := by
  refine ⟨rise_putF h.rise, fun f hf => ?_, ?_, fun f hf => ?_, h.arm, h.rm, h.kp⟩
  · rcases mem_putF.1 hf with rfl | ⟨hf, _⟩
    · exact hn
    · exact h.nm f hf
  · simp only
    rw [len_putF h.rise]
    have := h.few
    split
    · rename_i h1
      have := hl h1
      omega
    · exact h.few
  · rcases mem_putF.1 hf with rfl | ⟨hf, _⟩
    · exact hs
    · exact h.sm f hf
theorem Dk.Ok.drop {d : Dk} (h : d.Ok) (n : List UInt8) : ({ d with files := dropF n d.files } : Dk).Ok := by
  refine ⟨rise_dropF h.rise, fun f hf => h.nm f (mem_dropF.1 hf).1, ?_, fun f hf => h.sm f (mem_dropF.1 hf).1, h.arm, h.rm, h.kp⟩
  exact Nat.le_trans (List.length_filter_le ..) h.few
theorem readyD_named {d : Dk} {n : List UInt8} (h : readyD d n = 0) : namedD n = true ∧ d.on = true := by
  unfold readyD at h
  split at h
  · cases h
  · rename_i h1
    split at h
    · cases h
    · rename_i h2
      exact ⟨by simpa using h1, by simpa using h2⟩
theorem thereD_zero {d : Dk} {n : List UInt8} (h : thereD d n = 0) : readyD d n = 0 ∧ ∃ f, getF d.files n = some f := by
  unfold thereD at h
  split at h
  · rename_i h1; exact absurd h h1
  · rename_i h1
    refine ⟨Classical.byContradiction h1, ?_⟩
    cases hg : getF d.files n with
    | none => rw [hg] at h; cases h
    | some f => exact ⟨f, rfl⟩
theorem Has.files {d d2 : Dk} {fs a b : List Ent} {p : Ent} {n : List UInt8} (hA : Has d fs a b p n) (h : d2.files = d.files) : Has d2 fs a b p n := ⟨hA.e, hA.nm, by rw [h]; exact hA.g, hA.a, hA.b⟩
theorem Dk.Ok.get {d : Dk} (h : d.Ok) {n : List UInt8} {f : Fl} (hg : getF d.files n = some f) : f ∈ d.files ∧ f.name = n ∧ namedD n = true ∧ f.len ≤ 1048576 := by
  obtain ⟨h1, h2⟩ := getF_some hg
  exact ⟨h1, h2, by rw [← h2]; exact h.nm f h1, h.sm f h1⟩
theorem rawNext {σ : St} {r rm : Nat} {d : Dk} {fs : List Ent} (h : DiskAt σ r d rm fs) (hok : d.Ok) (hw : d.writes < 4611686018427387904) :
    ∃ σ1, Does Tryz.prog prims 39 [.optr r 0] σ (.ret (.bool (rawD d).1)) σ1 ∧ DiskAt σ1 r (rawD d).2 rm fs ∧ KS (foot r rm fs) σ σ1 ∧ σ1.objs.length = σ.objs.length ∧
      ∃ σ2, Does Tryz.prog prims 40 [.optr r 0] σ1 (.ret (.int .i64 20)) σ2 ∧ Next σ r rm fs σ2 (offD d.keep (rawD d).2) := by
  obtain ⟨σ1, h1, h2, h3, h4⟩ := raw_does h hok hw
  obtain ⟨σ2, fs2, h5, h6, h7, h8⟩ := ends_does h2 hok.raw
  refine ⟨σ1, h1, h2, h3, h4, σ2, h5, ?_⟩
  rw [(raw_files d).2.1] at h6
  exact Next.trans h3 (fun x hx => .inl hx) ⟨fs2, h6, h7, h8⟩
theorem lens_all {objs : List Ob} : ∀ {fs : List Ent}, (∀ p ∈ fs, FAt objs p) → fileLens objs (fs.map fent) = some (fs.map fun p => p.1.len)
  | [], _ => rfl
  | p :: fs, h => by
    have hp := h p (List.mem_cons_self ..)
    have h1 := rowOf_rl hp.s
    have h2 := rowOf_rl hp.w
    rw [List.length_map] at h1 h2
    simp only [List.map_cons, fileLens, fileLen, fent, hp.ob, h1, h2]
    have := lens_all fun q hq => h q (List.mem_cons_of_mem _ hq)
    rw [this]
theorem sum_le_all {l : List Nat} {m : Nat} (h : ∀ x ∈ l, x ≤ m) : l.sum ≤ l.length * m := by
  induction l with
  | nil => simp
  | cons x l ih =>
    have h1 := h x (List.mem_cons_self ..)
    have h2 := ih fun y hy => h y (List.mem_cons_of_mem _ hy)
    simp only [List.sum_cons, List.length_cons, Nat.succ_mul]
    omega
theorem sizeD_le {d : Dk} (hok : d.Ok) : sizeD d.files ≤ 16777216 := by
  have h1 := sum_le_all (l := d.files.map Fl.len) (m := 1048576) fun x hx => by
    obtain ⟨f, hf, rfl⟩ := List.mem_map.1 hx
    exact hok.sm f hf
  have h2 := hok.few
  unfold sizeD
  rw [List.length_map] at h1
  omega
theorem size_does {σ : St} {r rm : Nat} {d : Dk} {fs : List Ent} (h : DiskAt σ r d rm fs) (hok : d.Ok) : Does Tryz.prog prims 38 [.optr r 0] σ (.ret (.int .i64 (sizeD d.files : Nat))) ⟨σ.objs ++ [.dead], σ.toks⟩ := by
  refine Does.prim (by kernel_rfl) ?_
  simp only [prims]
  rw [if_pos trivial]
  have hs : (fs.map fun p => p.1.len).sum = sizeD d.files := by
    have := (h.pm.map Fl.len).sum_nat
    rw [List.map_map] at this
    exact this
  have hb := sizeD_le hok
  simp only [sizeP, h.hd, dcells, h.hm, lens_all h.hf, hs]
  rw [if_pos (by omega)]
theorem DiskAt.pushed {σ : St} {r rm : Nat} {d : Dk} {fs : List Ent} (h : DiskAt σ r d rm fs) (o : Ob) : DiskAt ⟨σ.objs ++ [o], σ.toks⟩ r d rm fs := h.keep (KS.push [] σ o) fun x _ => by simp
theorem putF_putF {x y : Fl} {l : List Fl} (hn : x.name = y.name) : putF x (putF y l) = putF x l := by
  unfold putF
  have h1 : ¬ y.name < y.name := lt_irrefl' _
  have e1 : (List.filter (fun f => decide (f.name < x.name)) (l.filter fun f => decide (y.name < f.name))) = [] := by
    rw [List.filter_filter, List.filter_eq_nil_iff]
    intro f _
    rw [hn]
    simp only [Bool.and_eq_true, decide_eq_true_eq, not_and]
    intro h2 h3
    exact lt_irrefl' _ (lt_trans' h2 h3)
  have e2 : (List.filter (fun f => decide (x.name < f.name)) (l.filter fun f => decide (f.name < y.name))) = [] := by
    rw [List.filter_filter, List.filter_eq_nil_iff]
    intro f _
    rw [hn]
    simp only [Bool.and_eq_true, decide_eq_true_eq, not_and]
    intro h2 h3
    exact lt_irrefl' _ (lt_trans' h2 h3)
  rw [List.filter_append, List.filter_append, List.filter_cons, List.filter_cons, e1, e2, hn]
  simp only [h1, decide_false, Bool.false_eq_true, ↓reduceIte, List.append_nil, List.nil_append, List.filter_filter, Bool.and_self]
theorem RB.ks {σ σ' : St} {v : V} {bs : List UInt8} {S : List Nat} (h : RB σ v bs) (hk : KS S σ σ') (hs : ∀ q ∈ S, ∀ cs, σ.objs[q]? ≠ some (.cells cs)) : RB σ' v bs := by
  rcases h with h | ⟨q, off, cs, e1, e2, e3⟩
  · exact .inl h
  · exact .inr ⟨q, off, cs, e1, hk.ko q _ (fun hq => hs q hq cs e2) e2, e3⟩
theorem DiskAt.fresh {σ : St} {r rm : Nat} {d : Dk} {fs : List Ent} (h : DiskAt σ r d rm fs) (hok : d.Ok) {n : List UInt8} (hg : getF d.files n = none) {σ1 σ2 : St} (h1 : σ1 = ⟨σ.objs ++ [.cells [.nils, .nils]], σ.toks⟩) :
    ∃ σ2 p d2, vmapSet Tryz.prog σ1 72 (.omap rm) (.str n) (.optr σ.objs.length 0) = some σ2 ∧ d2 = { d with files := putF ⟨n, [], []⟩ d.files } ∧ p.1 = ⟨n, [], []⟩ ∧ p.2.rf = σ.objs.length ∧ DiskAt σ2 r d2 rm (fs ++ [p]) ∧ KS [rm] σ σ2 ∧ Has d2 (fs ++ [p]) fs [] p n ∧ σ2.objs.length = σ.objs.length + 1 ∧ ∀ x ∈ foot r rm (fs ++ [p]), x ∈ foot r rm fs ∨ σ.objs.length ≤ x := by
  have D1 : DiskAt σ1 r d rm fs := by rw [h1]; exact h.pushed _
  have hlt := h.lt
  have hN := h.nd
  have hno := h.get_no hg
  unfold foot at hN
  rw [List.nodup_cons, List.nodup_cons] at hN
  have hrl := hlt r (by simp [foot])
  have hml := hlt rm (by simp [foot])
  have hml1 : rm < σ1.objs.length := by rw [h1]; simp; omega
  have hfl : ∀ x ∈ fs.flatMap (fun p => p.2.ids), x < σ.objs.length := fun x hx => hlt x (by simp only [foot, List.mem_cons]; exact .inr (.inr hx))
  refine ⟨⟨σ1.objs.set rm (.mp (fs.map fent ++ [(.str n, .optr σ.objs.length 0)])), σ1.toks⟩, (⟨n, [], []⟩, ⟨σ.objs.length, .nils, none, [], .nils, none, []⟩), _, ?_, rfl, rfl, rfl, ⟨?_, ?_, ?_, ?_, ?_⟩, ?_, ⟨rfl, rfl, ?_, hno, fun q hq => by cases hq⟩, ?_, ?_⟩
  · simp only [vmapSet, pTM, D1.hm, keyD, find_no hno]
  · simp only
    rw [gA3 (fun e => hN.1 (by rw [e]; exact List.mem_cons_self ..))]
    exact D1.hd
  · simp only
    rw [gA5 hml1, List.map_append]
    rfl
  · intro q hq
    rcases List.mem_append.1 hq with hq | hq
    · exact (D1.hf q hq).frame fun x hx o ho => by
        simp only
        rw [gA3 (fun e => hN.2.1 (by rw [e]; exact List.mem_flatMap.2 ⟨q, hq, hx⟩))]
        exact ho
    · rw [List.mem_singleton] at hq
      subst hq
      refine ⟨?_, rfl, rfl, rfl, rfl⟩
      simp only
      rw [gA3 (by omega), h1]
      exact push_new _ _
  · have e : foot r rm (fs ++ [((⟨n, [], []⟩ : Fl), (⟨σ.objs.length, .nils, none, [], .nils, none, []⟩ : FO))]) = foot r rm fs ++ [σ.objs.length] := by
      simp [foot, FO.ids]
    rw [e, List.nodup_append]
    exact ⟨h.nd, by simp, fun x hx y hy => by rw [List.mem_singleton] at hy; have := hlt x hx; omega⟩
  · simp only [List.map_append, List.map_cons, List.map_nil]
    have hp := h.pm
    have h3 : (putF ⟨n, [], []⟩ d.files).Perm (⟨n, [], []⟩ :: d.files) := by
      unfold putF
      refine (List.perm_middle).trans (.cons _ ?_)
      have e : (d.files.filter fun f => decide (n < f.name)) = d.files.filter fun f => !decide (f.name < n) := by
        refine List.filter_congr fun f hf => ?_
        have hne := getF_none hg f hf
        rcases lt_or hne with h | h
        · have : ¬ n < f.name := fun h2 => lt_irrefl' _ (lt_trans' h h2)
          simp [h, this]
        · have : ¬ f.name < n := fun h2 => lt_irrefl' _ (lt_trans' h h2)
          simp [h, this]
      rw [e]
      exact List.filter_append_perm _ _
    exact (List.perm_append_singleton ..).trans ((hp.cons _).trans h3.symm)
  · refine (KS.push [rm] σ (.cells [.nils, .nils])).trans' ?_
    rw [← h1]
    exact KS.set (.inl (by simp)) _
  · have hm : (⟨n, [], []⟩ : Fl) ∈ putF ⟨n, [], []⟩ d.files := mem_putF.2 (.inl rfl)
    have hnd : ((putF ⟨n, [], []⟩ d.files).map Fl.name).Nodup := by
      rw [List.nodup_iff_pairwise_ne, List.pairwise_map]
      exact (rise_putF hok.rise).imp fun {f g} hlt (he : f.name = g.name) => lt_irrefl' f.name (by rw [← he] at hlt; exact hlt)
    exact getF_mem hnd hm
  · simp [h1]
  · intro x hx
    simp only [foot, List.mem_cons, List.flatMap_append, List.mem_append] at hx ⊢
    rcases hx with hx | hx | hx | hx
    · exact .inl (.inl hx)
    · exact .inl (.inr (.inl hx))
    · exact .inl (.inr (.inr hx))
    · simp [FO.ids] at hx; exact .inr (by omega)
theorem append_tail {σ : St} {r rm : Nat} {d : Dk} {fs a b : List Ent} {p : Ent} {n bs : List UInt8} {v : V} {e : Nat → V} {R : VRes → St → Prop} (h : DiskAt σ r d rm fs) (hok : d.Ok) (hA : Has d fs a b p n) (hw : d.writes < 4611686018427387904) (hb : RB σ v bs) (hl : p.1.len + bs.length ≤ 1048576)
    (h0 : e 0 = .optr r 0) (h2 : e 2 = v) (h8 : e 8 = .optr p.2.rf 0) (d2 : Dk) (hd2 : d2 = { d with files := putF ⟨n, p.1.safe, p.1.wait ++ bs⟩ d.files })
    (hR : ∀ σ' x, Next σ r rm fs σ' (if (rawD d2).1 = true then offD d.keep (rawD d2).2 else (rawD d2).2) → x = (if (rawD d2).1 = true then 20 else 0 : Nat) → R (.ret (.int .i64 (x : Nat))) σ') :
    Ev Tryz.prog prims 88 (k9_r14.seq (((CC.region k9_r15).seq (CC.cond (.tmp 85) ((CC.region k9_r16).seq CC.ret) CC.skip)).seq ((CC.region k9_r17).seq CC.ret))) e σ (fnK Tryz.prog 88 [ResultVar.tmp 6] R) := by
  obtain ⟨g1, g2, g3⟩ := hA.ids h
  simp only [Fl.len] at hl
  have hbn := hb.news
  rw [← List.length_map (f := byteV)] at hbn
  obtain ⟨w', qw, σa, ha, hwa, hka, hqa, h1a⟩ := rowApp g1.w hbn (byteV_one bs) (by simp; omega)
  have hk2 : KS (p.2.rs.toList ++ p.2.rw.toList) σ σa := hka.mono fun x hx => .inl (List.mem_append_right _ hx)
  have hnd2 : (p.2.rs.toList ++ p.2.rw.toList).Nodup := by simp only [FO.ids, List.nodup_cons] at g2; exact g2.2
  have hlt2 : ∀ x ∈ p.2.rs.toList, x < σ.objs.length := fun x hx => g3 x (by simp only [FO.ids, List.mem_cons, List.mem_append]; exact .inr (.inl hx))
  have hsa : rowOf σa.objs p.2.s = some (p.2.rs, p.1.safe.map byteV) := rowOf_frame g1.s fun x hx o ho => hka.ko _ _ (fun hx2 => (List.nodup_append.1 hnd2).2.2 x hx x hx2 rfl) ho
  have hqn : (p.2.rs.toList ++ qw.toList).Nodup := by
    rw [List.nodup_append] at hnd2 ⊢
    refine ⟨hnd2.1, by cases qw <;> simp, fun x hx y hy e => ?_⟩
    rcases hqa y hy with h | h
    · exact hnd2.2.2 x hx y h e
    · have := hlt2 x hx; omega
  obtain ⟨N1, hob⟩ := h.upd hok hA (f' := ⟨n, p.1.safe, p.1.wait ++ bs⟩) hk2 hsa (by rw [List.map_append]; exact hwa) (fun x hx => by
    rcases List.mem_append.1 hx with h | h
    · exact .inl (List.mem_append_left _ h)
    · rcases hqa x h with h | h
      · exact .inl (List.mem_append_right _ h)
      · exact .inr h) hqn rfl
  rw [← hd2] at N1
  have lw : vload Tryz.prog σ.objs 30 (.optr p.2.rf 1) = some p.2.w := by rw [vload_obj g1.ob pGB]; rfl
  obtain ⟨σb, hσb⟩ : ∃ σb : St, σb = ⟨σa.objs.set p.2.rf (.cells [p.2.s, w']), σa.toks⟩ := ⟨_, rfl⟩
  have st : vstore Tryz.prog σa 30 (.optr p.2.rf 1) w' = some σb := by rw [vstore_obj hob SBB h1a (by simp), hσb]; rfl
  rw [← hσb] at N1
  obtain ⟨fs1, D1, K1, I1⟩ := N1
  have hgt := hok.get hA.g
  have ok2 : d2.Ok := by
    rw [hd2]
    refine hok.put hgt.2.2.1 (by simp only [Fl.len, List.length_append]; omega) fun hn => ?_
    simp only at hn
    rw [hA.g] at hn
    cases hn
  have hw2 : d2.writes < 4611686018427387904 := by rw [hd2]; exact hw
  have hkp : d2.keep = d.keep := by rw [hd2]
  obtain ⟨σ1, r1, r2, r3, r4, σ2, r5, r6⟩ := rawNext D1 ok2 hw2
  simp only [k9_a, WK, vop, evAll, evOpt, evParts, vbuiltin, vun, vextract, Nat.reduceLT, Nat.reduceEqDiff, ↓reduceIte, reduceCtorEq, Nat.reduceAdd, Int.reduceLT, Int.reduceNeg, valloc_std, noSB, vhot, h8, h2, h0, pFF1, lw, ha, st]
  refine KD.ret r1 ?_
  cases hgo : (rawD d2).1 with
  | true =>
    simp only [k9_a, WK, vop, evAll, evOpt, evParts, vbuiltin, vun, vextract, Nat.reduceLT, Nat.reduceEqDiff, ↓reduceIte, reduceCtorEq, Nat.reduceAdd, Int.reduceLT, Int.reduceNeg, valloc_std, noSB, vhot, h0]
    refine KD.ret r5 ?_
    simp only [k9_a, WK, vop, evAll, evOpt, evParts, vbuiltin, vun, vextract, Nat.reduceLT, Nat.reduceEqDiff, ↓reduceIte, reduceCtorEq, Nat.reduceAdd, Int.reduceLT, Int.reduceNeg, valloc_std, noSB, vhot]
    refine hR _ 20 ?_ (by rw [if_pos hgo])
    rw [if_pos hgo, ← hkp]
    exact Next.trans K1 I1 r6
  | false =>
    simp only [k9_a, WK, vop, evAll, evOpt, evParts, vbuiltin, vun, vextract, Nat.reduceLT, Nat.reduceEqDiff, ↓reduceIte, reduceCtorEq, Nat.reduceAdd, Int.reduceLT, Int.reduceNeg, valloc_std, noSB, vhot, h0]
    refine hR _ 0 ?_ (by rw [if_neg (by rw [hgo]; simp)])
    rw [if_neg (by rw [hgo]; simp)]
    exact Next.trans K1 I1 ⟨fs1, r2, r3, fun x hx => .inl hx⟩
theorem append_sees {σ : St} {r rm : Nat} {d : Dk} {fs : List Ent} {v : V} {n bs : List UInt8} (h : DiskAt σ r d rm fs) (hok : d.Ok) (hw : d.writes < 4611686018427387904) (hb : RB σ v bs) (hbl : bs.length ≤ 1000000000) :
    ∃ q σ', Does Tryz.prog prims 9 [.optr r 0, .str n, v] σ q σ' ∧ (q = .ret (.int .i64 ((appendD n bs d).1 : Nat)) ∧ Next σ r rm fs σ' (appendD n bs d).2) := by
  apply k9_is.does (by simp)
  have lm : vload Tryz.prog σ.objs 72 (.optr r 0) = some (.omap rm) := by rw [vload_obj h.hd pGM]; rfl
  have lr : vload Tryz.prog σ.objs 3 (.optr r 1) = some (.int .i64 d.room) := by rw [vload_obj h.hd G3]; rfl
  obtain ⟨σd, hσd⟩ : ∃ σd : St, σd = ⟨σ.objs ++ [.dead], σ.toks⟩ := ⟨_, rfl⟩
  have Kd : KS (foot r rm fs) σ σd := by rw [hσd]; exact KS.push _ _ _
  have Dd : DiskAt σd r d rm fs := by rw [hσd]; exact h.pushed .dead
  have lr2 : vload Tryz.prog σd.objs 3 (.optr r 1) = some (.int .i64 d.room) := by rw [vload_obj Dd.hd G3]; rfl
  have lm2 : vload Tryz.prog σd.objs 72 (.optr r 0) = some (.omap rm) := by rw [vload_obj Dd.hd pGM]; rfl
  have hsz := size_does h hok
  rw [← hσd] at hsz
  have hbd : RB σd v bs := by
    rw [hσd]
    exact hb.keep ((Keep.refl σ).push _)
  have hszl := sizeD_le hok
  have hws : IntKind.i64.wrap (((sizeD d.files : Nat) : Int) + (bs.length : Nat)) = ((sizeD d.files + bs.length : Nat) : Int) := by rw [wrap_i64 (by omega) (by omega)]; omega
  have hkt : ∀ σ', Next σd r rm fs σ' (appendD n bs d).2 → Next σ r rm fs σ' (appendD n bs d).2 := fun σ' hN => Next.trans Kd (fun x hx => .inl hx) hN
  simp only [k9_a, WK, vop, evAll, evOpt, evParts, vbuiltin, vun, vextract, Nat.reduceLT, Nat.reduceEqDiff, ↓reduceIte, reduceCtorEq, Nat.reduceAdd, Int.reduceLT, Int.reduceNeg, valloc_std, noSB, vhot, gD0, gD1]
  refine KD.ret (ready_does h n) ?_
  generalize hC : CC.seq k9_r14 _ = C14
  by_cases hr : readyD d n = 0
  · have hr' : ((readyD d n : Nat) : Int) = 0 := by omega
    cases hg : getF d.files n with
    | some f =>
      obtain ⟨a, p, b, hA⟩ := h.get_yes hok hg
      have hf : p.1 = f := by have := hA.g; rw [hg] at this; injection this with this; exact this.symm
      obtain ⟨g1, g2, g3⟩ := hA.ids h
      have hgt := hok.get hg
      have ls : vload Tryz.prog σ.objs 30 (.optr p.2.rf 0) = some p.2.s := by rw [vload_obj g1.ob pGB]; rfl
      have lw : vload Tryz.prog σ.objs 30 (.optr p.2.rf 1) = some p.2.w := by rw [vload_obj g1.ob pGB]; rfl
      have vs : vlen Tryz.prog 30 p.2.s = some (.int .i64 (p.1.safe.length : Nat)) := by rw [rowOf_len g1.s, List.length_map]
      have vw : vlen Tryz.prog 30 p.2.w = some (.int .i64 (p.1.wait.length : Nat)) := by rw [rowOf_len g1.w, List.length_map]
      have hlen : p.1.safe.length + p.1.wait.length ≤ 1048576 := by rw [hf]; exact hgt.2.2.2
      have w1 : IntKind.i64.wrap (1048576 - (p.1.safe.length : Int)) = 1048576 - (p.1.safe.length : Int) := wrap_i64 (by omega) (by omega)
      have w2 : IntKind.i64.wrap (1048576 - (p.1.safe.length : Int) - (p.1.wait.length : Int)) = 1048576 - (p.1.safe.length : Int) - (p.1.wait.length : Int) := wrap_i64 (by omega) (by omega)
      have hn0 : ¬ readyD d n ≠ 0 := fun h => h hr
      by_cases hbig : 1048576 < f.len + bs.length
      · have e : appendD n bs d = (3, d) := by unfold appendD; rw [if_neg hn0, hg]; simp only [Option.getD_some]; rw [if_pos hbig]
        have hbig' : 1048576 - (p.1.safe.length : Int) - (p.1.wait.length : Int) < (bs.length : Nat) := by rw [hf]; simp only [Fl.len] at hbig; omega
        simp only [k9_a, WK, vop, evAll, evOpt, evParts, vbuiltin, vun, vextract, Nat.reduceLT, Nat.reduceEqDiff, ↓reduceIte, reduceCtorEq, Nat.reduceAdd, Int.reduceLT, Int.reduceNeg, valloc_std, noSB, vhot, hr', pFA r 0 (by omega), lm, h.look_yes hA, hb.len, neq_optr pTF, eql_optr pTF, pFF0, pFF1, ls, lw, vs, vw, w1, w2, hbig', e]
        exact ⟨rfl, Next.refl h⟩
      · have hbig' : ¬ 1048576 - (p.1.safe.length : Int) - (p.1.wait.length : Int) < (bs.length : Nat) := by rw [hf]; simp only [Fl.len] at hbig; omega
        have hb2 : ¬ (1048576 : Int) < (bs.length : Nat) := by simp only [Fl.len] at hbig; omega
        simp only [k9_a, WK, vop, evAll, evOpt, evParts, vbuiltin, vun, vextract, Nat.reduceLT, Nat.reduceEqDiff, ↓reduceIte, reduceCtorEq, Nat.reduceAdd, Int.reduceLT, Int.reduceNeg, valloc_std, noSB, vhot, hr', pFA r 0 (by omega), pFA r 1 (by omega), lm, lr, lr2, h.look_yes hA, hb.len, neq_optr pTF, eql_optr pTF, pFF0, pFF1, ls, lw, vs, vw, w1, w2, hbig', hb2, decide_false]
        refine KD.ret hsz ?_
        by_cases hfull : d.room < ((sizeD d.files + bs.length : Nat) : Int)
        · have e : appendD n bs d = (22, d) := by
            unfold appendD; rw [if_neg hn0, hg]; simp only [Option.getD_some]; rw [if_neg hbig, if_pos (.inr hfull)]
          rw [e] at hkt ⊢
          simp only [k9_a, WK, vop, evAll, evOpt, evParts, vbuiltin, vun, vextract, Nat.reduceLT, Nat.reduceEqDiff, ↓reduceIte, reduceCtorEq, Nat.reduceAdd, Int.reduceLT, Int.reduceNeg, valloc_std, noSB, vhot, hr', pFA r 0 (by omega), pFA r 1 (by omega), lm, lr, lr2, hb.len, hws, hfull, decide_true]
          exact ⟨rfl, hkt _ (Next.refl Dd)⟩
        · have e : appendD n bs d = (if (rawD { d with files := putF ⟨n, f.safe, f.wait ++ bs⟩ d.files }).1 = true then (20, offD d.keep (rawD { d with files := putF ⟨n, f.safe, f.wait ++ bs⟩ d.files }).2) else (0, (rawD { d with files := putF ⟨n, f.safe, f.wait ++ bs⟩ d.files }).2)) := by
            unfold appendD; rw [if_neg hn0, hg]; simp only [Option.getD_some]; rw [if_neg hbig, if_neg (fun h => h.elim (fun h1 => by simp at h1) hfull)]
          simp only [k9_a, WK, vop, evAll, evOpt, evParts, vbuiltin, vun, vextract, Nat.reduceLT, Nat.reduceEqDiff, ↓reduceIte, reduceCtorEq, Nat.reduceAdd, Int.reduceLT, Int.reduceNeg, valloc_std, noSB, vhot, hr', pFA r 0 (by omega), pFA r 1 (by omega), lm, lr, lr2, hb.len, hws, hfull, decide_false, eql_optr pTF]
          rw [← hC]
          refine append_tail Dd hok hA hw hbd (by rw [hf]; omega) (by simp [upd_some]) (by simp [upd_some]) (by simp [upd_some]) _ rfl ?_
          intro σ' x hN hx
          rw [hf] at hN hx
          refine ⟨?_, hkt σ' ?_⟩
          · rw [hx, e]; split <;> rfl
          · rw [e]
            split at hN
            · rename_i h9; rw [if_pos h9]; exact hN
            · rename_i h9; rw [if_neg h9]; exact hN
    | none =>
      have hn0 : ¬ readyD d n ≠ 0 := fun h => h hr
      have hlD : vmapLen Tryz.prog σ.objs 72 (.omap rm) = some (.int .i64 (d.files.length : Nat)) := by
        simp only [vmapLen, pTM, h.hm, List.length_map]
        have := h.pm.length_eq
        rw [List.length_map] at this
        rw [this]
      have hvl : vlen Tryz.prog 72 (.omap rm) = none := by simp [vlen, pTM]
      by_cases hbig : 1048576 < bs.length
      · have hbig' : (1048576 : Int) < (bs.length : Nat) := by omega
        have e : appendD n bs d = (3, d) := by unfold appendD; rw [if_neg hn0, hg]; simp only [Option.getD_none]; rw [if_pos (by simp [Fl.len]; omega)]
        simp only [k9_a, WK, vop, evAll, evOpt, evParts, vbuiltin, vun, vextract, Nat.reduceLT, Nat.reduceEqDiff, ↓reduceIte, reduceCtorEq, Nat.reduceAdd, Int.reduceLT, Int.reduceNeg, valloc_std, noSB, vhot, hr', pFA r 0 (by omega), lm, h.look_no hg, hb.len, neq_nilp pTF, eql_nilp pTF, ofNilP, hbig', decide_true, e]
        exact ⟨rfl, Next.refl h⟩
      · have hbig' : ¬ (1048576 : Int) < (bs.length : Nat) := by omega
        have hbig2 : ¬ 1048576 < (⟨n, [], []⟩ : Fl).len + bs.length := by simp [Fl.len]; omega
        simp only [k9_a, WK, vop, evAll, evOpt, evParts, vbuiltin, vun, vextract, Nat.reduceLT, Nat.reduceEqDiff, ↓reduceIte, reduceCtorEq, Nat.reduceAdd, Int.reduceLT, Int.reduceNeg, valloc_std, noSB, vhot, hr', pFA r 0 (by omega), lm, h.look_no hg, hb.len, neq_nilp pTF, eql_nilp pTF, ofNilP, hbig', decide_false, hlD, hvl]
        by_cases hmany : 16 ≤ d.files.length
        · have hmany' : (16 : Int) ≤ (d.files.length : Nat) := by omega
          have e : appendD n bs d = (22, d) := by
            unfold appendD; rw [if_neg hn0, hg]; simp only [Option.getD_none]; rw [if_neg hbig2, if_pos (.inl ⟨rfl, hmany⟩)]
          simp only [k9_a, WK, vop, evAll, evOpt, evParts, vbuiltin, vun, vextract, Nat.reduceLT, Nat.reduceEqDiff, ↓reduceIte, reduceCtorEq, Nat.reduceAdd, Int.reduceLT, Int.reduceNeg, valloc_std, noSB, vhot, hmany', decide_true, e]
          exact ⟨rfl, Next.refl h⟩
        · have hmany' : ¬ (16 : Int) ≤ (d.files.length : Nat) := by omega
          simp only [k9_a, WK, vop, evAll, evOpt, evParts, vbuiltin, vun, vextract, Nat.reduceLT, Nat.reduceEqDiff, ↓reduceIte, reduceCtorEq, Nat.reduceAdd, Int.reduceLT, Int.reduceNeg, valloc_std, noSB, vhot, hmany', decide_false, pFA r 0 (by omega), pFA r 1 (by omega), lm, lr, lr2, hb.len]
          refine KD.ret hsz ?_
          by_cases hfull : d.room < ((sizeD d.files + bs.length : Nat) : Int)
          · have e : appendD n bs d = (22, d) := by
              unfold appendD; rw [if_neg hn0, hg]; simp only [Option.getD_none]; rw [if_neg hbig2, if_pos (.inr hfull)]
            rw [e] at hkt ⊢
            simp only [k9_a, WK, vop, evAll, evOpt, evParts, vbuiltin, vun, vextract, Nat.reduceLT, Nat.reduceEqDiff, ↓reduceIte, reduceCtorEq, Nat.reduceAdd, Int.reduceLT, Int.reduceNeg, valloc_std, noSB, vhot, hr', pFA r 0 (by omega), pFA r 1 (by omega), lm, lr, lr2, hb.len, hws, hfull, decide_true]
            exact ⟨rfl, hkt _ (Next.refl Dd)⟩
          · obtain ⟨x, hx⟩ : ∃ x : Dk, x = { d with files := putF ⟨n, [], bs⟩ d.files } := ⟨_, rfl⟩
            have e : appendD n bs d = (if (rawD x).1 = true then (20, offD d.keep (rawD x).2) else (0, (rawD x).2)) := by
              unfold appendD; rw [if_neg hn0, hg]; simp only [Option.getD_none]; rw [if_neg hbig2, if_neg (fun h => h.elim (fun h1 => hmany h1.2) hfull), hx]; rfl
            obtain ⟨s1, hs1⟩ : ∃ s1 : St, s1 = ⟨σd.objs ++ [.cells [.nils, .nils]], σd.toks⟩ := ⟨_, rfl⟩
            obtain ⟨s2, p, d2, hst, hd2, hp1, hp2, D2, K2, A2, L2, I2⟩ := Dd.fresh hok hg (σ2 := s1) hs1
            have l1 : vload Tryz.prog s1.objs 72 (.optr r 0) = some (.omap rm) := by rw [hs1, vload_obj (Dd.pushed _).hd pGM]; rfl
            have hbf : vbuild Tryz.prog 77 [] = some (.agg [.nils, .nils]) := by kernel_rfl
            have ok2 : d2.Ok := by
              rw [hd2]
              exact hok.put (readyD_named hr).1 (by simp [Fl.len]) fun _ => by omega
            have hb2 : RB s2 v bs := hbd.ks K2 fun q hq cs hc => by
              rw [List.mem_singleton] at hq
              subst hq
              rw [Dd.hm] at hc
              cases hc
            have K2 : KS (foot r rm fs) σd s2 := K2.mono fun q hq => .inl (by rw [List.mem_singleton] at hq; subst hq; simp [foot])
            simp only [k9_a, WK, vop, evAll, evOpt, evParts, vbuiltin, vun, vextract, Nat.reduceLT, Nat.reduceEqDiff, ↓reduceIte, reduceCtorEq, Nat.reduceAdd, Int.reduceLT, Int.reduceNeg, valloc_std, noSB, vhot, hr', pFA r 0 (by omega), pFA r 1 (by omega), lm, lr, lr2, hb.len, hws, hfull, decide_false, eql_nilp pTF, hbf, vbox, vcells, ← hs1, l1, hst]
            rw [← hC]
            refine append_tail D2 ok2 A2 (by rw [hd2]; exact hw) hb2 (by rw [hp1]; simp [Fl.len]; omega) (by simp [upd_some]) (by simp [upd_some]) (by simp [upd_some, hp2]) x ?_ ?_
            · rw [hx, hd2, hp1]; simp only [List.nil_append]; rw [putF_putF (x := ⟨n, [], bs⟩) (y := ⟨n, [], []⟩) rfl]
            intro σ' c hN hc
            have hkp : d2.keep = d.keep := by rw [hd2]
            rw [hkp] at hN
            refine ⟨?_, hkt σ' ?_⟩
            · rw [hc, e]; split <;> rfl
            · rw [e]
              split at hN
              · rename_i h9; rw [if_pos h9]; exact Next.trans K2 I2 hN
              · rename_i h9; rw [if_neg h9]; exact Next.trans K2 I2 hN
  · have hr' : ¬ ((readyD d n : Nat) : Int) = 0 := by omega
    have e : appendD n bs d = (readyD d n, d) := by unfold appendD; rw [if_pos hr]
    simp only [k9_a, WK, vop, evAll, evOpt, evParts, vbuiltin, vun, vextract, Nat.reduceLT, Nat.reduceEqDiff, ↓reduceIte, reduceCtorEq, Nat.reduceAdd, Int.reduceLT, Int.reduceNeg, valloc_std, noSB, vhot, hr', e]
    exact Next.refl h
theorem rowOf_news {objs : List Ob} {v : V} {q : Option Nat} {cs : List V} (h : rowOf objs v = some (q, cs)) : vnewsO Tryz.prog objs 30 v 1 = some (cs, cs.length) := by
  rcases rowOf_spec h with ⟨rfl, rfl, rfl⟩ | ⟨r, full, rfl, rfl, hr, hl, hc⟩
  · simp [vnewsO, vnews, pTB]
  · have h2 : List.take cs.length full = cs := hc.symm
    simp [vnewsO, vnews, pTB, hr, hl, h2]
theorem Has.facts {σ : St} {r rm : Nat} {d : Dk} {fs a b : List Ent} {p : Ent} {n : List UInt8} (h : DiskAt σ r d rm fs) (hok : d.Ok) (hA : Has d fs a b p n) :
    vload Tryz.prog σ.objs 30 (.optr p.2.rf 0) = some p.2.s ∧ vload Tryz.prog σ.objs 30 (.optr p.2.rf 1) = some p.2.w ∧ vlen Tryz.prog 30 p.2.s = some (.int .i64 (p.1.safe.length : Nat)) ∧ vlen Tryz.prog 30 p.2.w = some (.int .i64 (p.1.wait.length : Nat)) ∧
      p.1.safe.length + p.1.wait.length ≤ 1048576 ∧ namedD n = true ∧ (p.2.rs.toList ++ p.2.rw.toList).Nodup ∧ p.2.rf ∉ p.2.rs.toList ++ p.2.rw.toList := by
  obtain ⟨g1, g2, g3⟩ := hA.ids h
  have hgt := hok.get hA.g
  simp only [FO.ids, List.nodup_cons] at g2
  exact ⟨by rw [vload_obj g1.ob pGB]; rfl, by rw [vload_obj g1.ob pGB]; rfl, by rw [rowOf_len g1.s, List.length_map], by rw [rowOf_len g1.w, List.length_map], hgt.2.2.2, hgt.2.2.1, g2.2, g2.1⟩
theorem sync_sees {σ : St} {r rm : Nat} {d : Dk} {fs : List Ent} {n : List UInt8} (h : DiskAt σ r d rm fs) (hok : d.Ok) (hw : d.writes < 4611686018427387904) :
    ∃ q σ', Does Tryz.prog prims 11 [.optr r 0, .str n] σ q σ' ∧ (q = .ret (.int .i64 ((syncD n d).1 : Nat)) ∧ Next σ r rm fs σ' (syncD n d).2) := by
  apply k11_is.does (by simp)
  simp only [k11_a, WK, vop, evAll, evOpt, evParts, vbuiltin, vun, vextract, Nat.reduceLT, Nat.reduceEqDiff, ↓reduceIte, reduceCtorEq, Nat.reduceAdd, Int.reduceLT, Int.reduceNeg, valloc_std, noSB, vhot, gD0, gD1]
  by_cases hz : thereD d n = 0
  · obtain ⟨a, b, p, hA, hr⟩ := there_ok h hok hz
    refine KD.ret (there_yes h hr hA) ?_
    obtain ⟨σ1, r1, D1, r3, r4, σ2, r5, r6⟩ := rawNext h hok hw
    obtain ⟨f1, f2, f3, f4, f5⟩ := raw_files d
    simp only [k11_a, WK, vop, evAll, evOpt, evParts, vbuiltin, vun, vextract, Nat.reduceLT, Nat.reduceEqDiff, ↓reduceIte, reduceCtorEq, Nat.reduceAdd, Int.reduceLT, Int.reduceNeg, valloc_std, noSB, vhot]
    refine KD.ret r1 ?_
    have hz' : ¬ thereD d n ≠ 0 := fun h => h hz
    cases hgo : (rawD d).1 with
    | true =>
      have e : syncD n d = (20, offD d.keep (rawD d).2) := by unfold syncD; rw [if_neg hz', if_pos hgo]
      simp only [k11_a, WK, vop, evAll, evOpt, evParts, vbuiltin, vun, vextract, Nat.reduceLT, Nat.reduceEqDiff, ↓reduceIte, reduceCtorEq, Nat.reduceAdd, Int.reduceLT, Int.reduceNeg, valloc_std, noSB, vhot]
      refine KD.ret r5 ?_
      simp only [k11_a, WK, vop, evAll, evOpt, evParts, vbuiltin, vun, vextract, Nat.reduceLT, Nat.reduceEqDiff, ↓reduceIte, reduceCtorEq, Nat.reduceAdd, Int.reduceLT, Int.reduceNeg, valloc_std, noSB, vhot, e]
      exact ⟨rfl, r6⟩
    | false =>
      have A1 := hA.files (d2 := (rawD d).2) f1
      have e : syncD n d = (0, { (rawD d).2 with files := putF ⟨n, p.1.safe ++ p.1.wait, []⟩ d.files }) := by
        unfold syncD; rw [if_neg hz', if_neg (by rw [hgo]; simp), hA.g]; rfl
      obtain ⟨g1, g2, g3⟩ := A1.ids D1
      obtain ⟨l1, l2, v1, v2, hl, hn, hnd, hrf⟩ := A1.facts D1 hok.raw
      obtain ⟨s', qs, σa, ha, hsa, hka, hqa, h1a⟩ := rowApp g1.s (rowOf_news g1.w) (byteV_one _) (by simp; omega)
      obtain ⟨N1, hob⟩ := D1.upd hok.raw A1 (f' := ⟨n, p.1.safe ++ p.1.wait, []⟩) (s' := s') (w' := .nils) (qs := qs) (qw := none) (hka.mono fun x hx => .inl (List.mem_append_left _ hx)) (by rw [List.map_append]; exact hsa) rfl (fun x hx => by
        rcases List.mem_append.1 hx with h | h
        · rcases hqa x h with h | h
          · exact .inl (List.mem_append_left _ h)
          · exact .inr h
        · cases h) (by cases qs <;> simp) rfl
      obtain ⟨σb, hσb⟩ : ∃ σb : St, σb = ⟨σa.objs.set p.2.rf (.cells [s', p.2.w]), σa.toks⟩ := ⟨_, rfl⟩
      have st1 : vstore Tryz.prog σa 30 (.optr p.2.rf 0) s' = some σb := by rw [vstore_obj hob SBB h1a (by simp), hσb]; rfl
      have hobb : σb.objs[p.2.rf]? = some (.cells [s', p.2.w]) := by rw [hσb]; exact obj_set hob
      have st2 : vstore Tryz.prog σb 30 (.optr p.2.rf 1) .nils = some ⟨σa.objs.set p.2.rf (.cells [s', .nils]), σa.toks⟩ := by
        rw [vstore_obj hobb SBB rfl (by simp), hσb]; simp [List.set_set]
      simp only [k11_a, WK, vop, evAll, evOpt, evParts, vbuiltin, vun, vextract, Nat.reduceLT, Nat.reduceEqDiff, ↓reduceIte, reduceCtorEq, Nat.reduceAdd, Int.reduceLT, Int.reduceNeg, valloc_std, noSB, vhot, pFF0, pFF1, l1, l2, ha, st1, st2, nilEP, e]
      rw [f1] at N1
      exact ⟨rfl, Next.trans r3 (fun x hx => .inl hx) N1⟩
  · refine KD.ret (there_no h n hz) ?_
    have hz' : ¬ ((thereD d n : Nat) : Int) = 0 := by omega
    have e : syncD n d = (thereD d n, d) := by unfold syncD; rw [if_pos hz]
    simp only [k11_a, WK, vop, evAll, evOpt, evParts, vbuiltin, vun, vextract, Nat.reduceLT, Nat.reduceEqDiff, ↓reduceIte, reduceCtorEq, Nat.reduceAdd, Int.reduceLT, Int.reduceNeg, valloc_std, noSB, vhot, hz', e]
    exact Next.refl h
theorem DiskAt.gone {σ : St} {r rm : Nat} {d : Dk} {fs a b : List Ent} {p : Ent} {n : List UInt8} (h : DiskAt σ r d rm fs) (hok : d.Ok) (hA : Has d fs a b p n) :
    ∃ σ', vmapDel Tryz.prog σ 72 (.omap rm) (.str n) = some σ' ∧ DiskAt σ' r { d with files := dropF n d.files } rm (a ++ b) ∧ KS [rm] σ σ' ∧ FAt σ'.objs p ∧ p.2.ids.Nodup ∧ (∀ x ∈ p.2.ids, x ∈ foot r rm fs ∧ x ∉ foot r rm (a ++ b)) ∧ ∀ x ∈ foot r rm (a ++ b), x ∈ foot r rm fs := by
  have hlt := h.lt
  have hN := h.nd
  obtain ⟨g1, g2, g3⟩ := hA.ids h
  have hfs := hA.e
  subst hfs
  have hpm := h.pm
  unfold foot at hN
  rw [List.nodup_cons, List.nodup_cons, flat_mid] at hN
  obtain ⟨n1, n2, n3⟩ := hN
  have hml := hlt rm (by simp [foot])
  have hv := find_yes (a := a) (b := b) (p := p) (by rw [hA.nm]; exact hA.a) 0
  rw [hA.nm] at hv
  have hne : ∀ x, x ∈ (a ++ p :: b).flatMap (fun p => p.2.ids) → rm ≠ x := fun x hx e => n2 (by rw [flat_mid] at hx; rw [e]; exact hx)
  have hkeep : ∀ q ∈ a ++ p :: b, FAt (σ.objs.set rm (.mp ((a ++ b).map fent))) q := fun q hq => (h.hf q hq).frame fun x hx o ho => by
    rw [gA3 (hne x (List.mem_flatMap.2 ⟨q, hq, hx⟩))]; exact ho
  have hids : ∀ x ∈ foot r rm (a ++ b), x ∈ foot r rm (a ++ p :: b) := by
    intro x hx
    simp only [foot, List.mem_cons, List.flatMap_append, List.flatMap_cons, List.mem_append] at hx ⊢
    rcases hx with h | h | h | h
    · exact .inl h
    · exact .inr (.inl h)
    · exact .inr (.inr (.inl h))
    · exact .inr (.inr (.inr (.inr h)))
  have hsub : ((a ++ b).flatMap fun p => p.2.ids).Sublist ((a ++ p :: b).flatMap fun p => p.2.ids) := by
    rw [flat_mid, List.flatMap_append]
    exact (List.Sublist.refl _).append (List.sublist_append_right ..)
  refine ⟨⟨σ.objs.set rm (.mp ((a ++ b).map fent)), σ.toks⟩, ?_, ⟨?_, ?_, fun q hq => hkeep q ?_, ?_, ?_⟩, KS.set (.inl (by simp)) _, hkeep p (by simp), g2, fun x hx => ⟨?_, fun hx2 => ?_⟩, hids⟩
  · simp only [vmapDel, pTM, h.hm, keyD, hv]
    congr 3
    rw [List.map_append, List.map_cons, Nat.zero_add, ← List.length_map (f := fent), List.eraseIdx_append_of_length_le (Nat.le_refl _), Nat.sub_self, List.map_append]
    rfl
  · simp only
    rw [gA3 (fun e => n1 (by rw [e]; exact List.mem_cons_self ..))]
    exact h.hd
  · simp only
    rw [gA5 hml]
  · rcases List.mem_append.1 hq with h | h <;> simp [h]
  · have := h.nd
    unfold foot at this ⊢
    exact (List.Sublist.cons_cons _ (List.Sublist.cons_cons _ hsub)).nodup this
  · simp only [List.map_append, List.map_cons] at hpm ⊢
    have e : (a.map (·.1) ++ b.map (·.1)) = dropF n (a.map (·.1) ++ p.1 :: b.map (·.1)) := by
      unfold dropF
      rw [List.filter_append, List.filter_cons]
      simp only [hA.nm, ne_eq, not_true_eq_false, decide_false, Bool.false_eq_true, ↓reduceIte]
      rw [List.filter_eq_self.2, List.filter_eq_self.2]
      · intro f hf
        obtain ⟨q, hq, rfl⟩ := List.mem_map.1 hf
        simp [hA.b q hq]
      · intro f hf
        obtain ⟨q, hq, rfl⟩ := List.mem_map.1 hf
        simp [hA.a q hq]
    rw [e]
    exact hpm.filter _
  · simp only [foot, List.mem_cons, List.mem_flatMap]
    exact .inr (.inr ⟨p, by simp, hx⟩)
  · simp only [foot, List.mem_cons, List.flatMap_append, List.mem_append] at hx2
    rw [List.nodup_append, List.nodup_append] at n3
    rcases hx2 with h | h | h | h
    · subst h; exact n1 (List.mem_cons_of_mem _ (by simp [hx]))
    · subst h; exact n2 (by simp [hx])
    · exact n3.2.2 x h x (List.mem_append_left _ hx) rfl
    · exact n3.2.1.2.2 x hx x h rfl
theorem putF_new {l : List Fl} {x : Fl} (hg : getF l x.name = none) : (putF x l).Perm (x :: l) := by
  unfold putF
  refine (List.perm_middle).trans (.cons _ ?_)
  have e : (l.filter fun f => decide (x.name < f.name)) = l.filter fun f => !decide (f.name < x.name) := by
    refine List.filter_congr fun f hf => ?_
    have hne := getF_none hg f hf
    rcases lt_or hne with h | h
    · have : ¬ x.name < f.name := fun h2 => lt_irrefl' _ (lt_trans' h h2)
      simp [h, this]
    · have : ¬ f.name < x.name := fun h2 => lt_irrefl' _ (lt_trans' h h2)
      simp [h, this]
  rw [e]
  exact List.filter_append_perm _ _
theorem DiskAt.come {σ : St} {r rm : Nat} {d : Dk} {fs : List Ent} {p : Ent} (h : DiskAt σ r d rm fs) (hok : d.Ok) (hF : FAt σ.objs p) (hnd : p.2.ids.Nodup) (hdj : ∀ x ∈ p.2.ids, x ∉ foot r rm fs) :
    ∃ σ' fs', vmapSet Tryz.prog σ 72 (.omap rm) (.str p.1.name) (.optr p.2.rf 0) = some σ' ∧ DiskAt σ' r { d with files := putF p.1 d.files } rm fs' ∧ KS [rm] σ σ' ∧ ∀ x ∈ foot r rm fs', x ∈ foot r rm fs ∨ x ∈ p.2.ids := by
  have hlt := h.lt
  have hN := h.nd
  have hN0 := hN
  have hml := hlt rm (by simp [foot])
  unfold foot at hN
  rw [List.nodup_cons, List.nodup_cons] at hN
  obtain ⟨n1, n2, n3⟩ := hN
  have hkeep : ∀ q ∈ fs, ∀ o, FAt (σ.objs.set rm o) q := fun q hq o => (h.hf q hq).frame fun x hx o ho => by
    rw [gA3 (fun e => n2 (by rw [e]; exact List.mem_flatMap.2 ⟨q, hq, hx⟩))]; exact ho
  have hkp : ∀ o, FAt (σ.objs.set rm o) p := fun o => hF.frame fun x hx o ho => by
    rw [gA3 (fun e => hdj x hx (by rw [← e]; simp [foot]))]; exact ho
  have hrm : rm ≠ r := fun e => n1 (by rw [← e]; exact List.mem_cons_self ..)
  cases hg : getF d.files p.1.name with
  | none =>
    have hno := h.get_no hg
    refine ⟨⟨σ.objs.set rm (.mp ((fs ++ [p]).map fent)), σ.toks⟩, fs ++ [p], ?_, ⟨?_, ?_, ?_, ?_, ?_⟩, KS.set (.inl (by simp)) _, ?_⟩
    · simp only [vmapSet, pTM, h.hm, keyD, find_no hno]
      rw [List.map_append]
      rfl
    · simp only; rw [gA3 hrm]; exact h.hd
    · simp only; rw [gA5 hml]
    · intro q hq
      rcases List.mem_append.1 hq with hq | hq
      · exact hkeep q hq _
      · rw [List.mem_singleton] at hq; subst hq; exact hkp _
    · have e : foot r rm (fs ++ [p]) = foot r rm fs ++ p.2.ids := by simp [foot]
      rw [e, List.nodup_append]
      exact ⟨hN0, hnd, fun x hx y hy e => hdj y hy (by rw [← e]; exact hx)⟩
    · simp only [List.map_append, List.map_cons, List.map_nil]
      exact (List.perm_append_singleton ..).trans ((h.pm.cons _).trans (putF_new hg).symm)
    · intro x hx
      have e : foot r rm (fs ++ [p]) = foot r rm fs ++ p.2.ids := by simp [foot]
      rw [e, List.mem_append] at hx
      exact hx
  | some f =>
    obtain ⟨a, q, b, hA⟩ := h.get_yes hok hg
    have hfs := hA.e
    subst hfs
    have hpm := h.pm
    have hv := find_yes (a := a) (b := b) (p := q) (by rw [hA.nm]; exact hA.a) 0
    rw [hA.nm] at hv
    have hmem : ∀ x ∈ foot r rm (a ++ p :: b), x ∈ foot r rm (a ++ q :: b) ∨ x ∈ p.2.ids := by
      intro x hx
      simp only [foot, List.mem_cons, List.flatMap_append, List.flatMap_cons, List.mem_append] at hx ⊢
      rcases hx with h | h | h | h | h
      · exact .inl (.inl h)
      · exact .inl (.inr (.inl h))
      · exact .inl (.inr (.inr (.inl h)))
      · exact .inr h
      · exact .inl (.inr (.inr (.inr (.inr h))))
    refine ⟨⟨σ.objs.set rm (.mp ((a ++ p :: b).map fent)), σ.toks⟩, a ++ p :: b, ?_, ⟨?_, ?_, ?_, ?_, ?_⟩, KS.set (.inl (by simp)) _, hmem⟩
    · simp only [vmapSet, pTM, h.hm, keyD, hv]
      congr 3
      rw [List.map_append, List.map_cons, Nat.zero_add, ← List.length_map (f := fent), List.set_append_right _ _ (Nat.le_refl _), Nat.sub_self, List.map_append]
      rfl
    · simp only; rw [gA3 hrm]; exact h.hd
    · simp only; rw [gA5 hml]
    · intro x hx
      simp only [List.mem_append, List.mem_cons] at hx
      rcases hx with hx | rfl | hx
      · exact hkeep x (by simp [hx]) _
      · exact hkp _
      · exact hkeep x (by simp [hx]) _
    · unfold foot at hN0 ⊢
      rw [flat_mid] at hN0 ⊢
      have hdj2 : ∀ x ∈ p.2.ids, x ∉ r :: rm :: ((a.flatMap fun p => p.2.ids) ++ (q.2.ids ++ b.flatMap fun p => p.2.ids)) := fun x hx hx2 => hdj x hx (by unfold foot; rw [flat_mid]; exact hx2)
      rw [← List.cons_append, ← List.cons_append] at hN0 ⊢
      rw [List.nodup_append, List.nodup_append] at hN0 ⊢
      obtain ⟨m1, ⟨m2, m3, m4⟩, m5⟩ := hN0
      refine ⟨m1, ⟨hnd, m3, fun x hx y hy e => hdj2 x hx (by rw [e]; simp [hy])⟩, fun x hx y hy e => ?_⟩
      rcases List.mem_append.1 hy with hy | hy
      · refine hdj2 y hy ?_
        rw [← e]
        rw [← List.cons_append, ← List.cons_append]
        exact List.mem_append_left _ hx
      · exact m5 x hx y (List.mem_append_right _ hy) e
    · simp only [List.map_append, List.map_cons] at hpm ⊢
      exact putF_perm hok.rise hpm hA.nm.symm
theorem remove_sees {σ : St} {r rm : Nat} {d : Dk} {fs : List Ent} {n : List UInt8} (h : DiskAt σ r d rm fs) (hok : d.Ok) (hw : d.writes < 4611686018427387904) :
    ∃ q σ', Does Tryz.prog prims 50 [.optr r 0, .str n] σ q σ' ∧ (q = .ret (.int .i64 ((removeD n d).1 : Nat)) ∧ Next σ r rm fs σ' (removeD n d).2) := by
  apply k50_is.does (by simp)
  simp only [k50_a, WK, vop, evAll, evOpt, evParts, vbuiltin, vun, vextract, Nat.reduceLT, Nat.reduceEqDiff, ↓reduceIte, reduceCtorEq, Nat.reduceAdd, Int.reduceLT, Int.reduceNeg, valloc_std, noSB, vhot, gD0, gD1]
  by_cases hz : thereD d n = 0
  · obtain ⟨a, b, p, hA, hr⟩ := there_ok h hok hz
    refine KD.ret (there_yes h hr hA) ?_
    obtain ⟨σ1, r1, D1, r3, r4, σ2, r5, r6⟩ := rawNext h hok hw
    obtain ⟨f1, f2, f3, f4, f5⟩ := raw_files d
    simp only [k50_a, WK, vop, evAll, evOpt, evParts, vbuiltin, vun, vextract, Nat.reduceLT, Nat.reduceEqDiff, ↓reduceIte, reduceCtorEq, Nat.reduceAdd, Int.reduceLT, Int.reduceNeg, valloc_std, noSB, vhot]
    refine KD.ret r1 ?_
    have hz' : ¬ thereD d n ≠ 0 := fun h => h hz
    cases hgo : (rawD d).1 with
    | true =>
      have e : removeD n d = (20, offD d.keep (rawD d).2) := by unfold removeD; rw [if_neg hz', if_pos hgo]
      simp only [k50_a, WK, vop, evAll, evOpt, evParts, vbuiltin, vun, vextract, Nat.reduceLT, Nat.reduceEqDiff, ↓reduceIte, reduceCtorEq, Nat.reduceAdd, Int.reduceLT, Int.reduceNeg, valloc_std, noSB, vhot]
      refine KD.ret r5 ?_
      simp only [k50_a, WK, vop, evAll, evOpt, evParts, vbuiltin, vun, vextract, Nat.reduceLT, Nat.reduceEqDiff, ↓reduceIte, reduceCtorEq, Nat.reduceAdd, Int.reduceLT, Int.reduceNeg, valloc_std, noSB, vhot, e]
      exact ⟨rfl, r6⟩
    | false =>
      have A1 := hA.files (d2 := (rawD d).2) f1
      have e : removeD n d = (0, { (rawD d).2 with files := dropF n d.files }) := by
        unfold removeD; rw [if_neg hz', if_neg (by rw [hgo]; simp)]
      have lm : vload Tryz.prog σ1.objs 72 (.optr r 0) = some (.omap rm) := by rw [vload_obj D1.hd pGM]; rfl
      obtain ⟨σb, hdl, N1, K1, _, _, _, I1⟩ := D1.gone hok.raw A1
      simp only [k50_a, WK, vop, evAll, evOpt, evParts, vbuiltin, vun, vextract, Nat.reduceLT, Nat.reduceEqDiff, ↓reduceIte, reduceCtorEq, Nat.reduceAdd, Int.reduceLT, Int.reduceNeg, valloc_std, noSB, vhot, pFA r 0 (by omega), lm, hdl, e]
      rw [f1] at N1
      exact ⟨rfl, Next.trans r3 (fun x hx => .inl hx) ⟨_, N1, K1.mono fun x hx => .inl (by rw [List.mem_singleton] at hx; subst hx; simp [foot]), fun x hx => .inl (I1 x hx)⟩⟩
  · refine KD.ret (there_no h n hz) ?_
    have hz' : ¬ ((thereD d n : Nat) : Int) = 0 := by omega
    have e : removeD n d = (thereD d n, d) := by unfold removeD; rw [if_pos hz]
    simp only [k50_a, WK, vop, evAll, evOpt, evParts, vbuiltin, vun, vextract, Nat.reduceLT, Nat.reduceEqDiff, ↓reduceIte, reduceCtorEq, Nat.reduceAdd, Int.reduceLT, Int.reduceNeg, valloc_std, noSB, vhot, hz', e]
    exact Next.refl h
theorem thereD_cases (d : Dk) (n : List UInt8) : (namedD n = false → thereD d n = 1) ∧ (namedD n = true → thereD d n = 0 ∨ thereD d n = 20 ∨ thereD d n = 21) := by
  unfold thereD readyD
  cases h1 : namedD n <;> cases h2 : d.on <;> cases h3 : (getF d.files n).isNone <;> simp
theorem rename_sees {σ : St} {r rm : Nat} {d : Dk} {fs : List Ent} {n m : List UInt8} (h : DiskAt σ r d rm fs) (hok : d.Ok) (hw : d.writes < 4611686018427387904) :
    ∃ q σ', Does Tryz.prog prims 52 [.optr r 0, .str n, .str m] σ q σ' ∧ (q = .ret (.int .i64 ((renameD n m d).1 : Nat)) ∧ Next σ r rm fs σ' (renameD n m d).2) := by
  apply k52_is.does (by simp)
  simp only [k52_a, WK, vop, evAll, evOpt, evParts, vbuiltin, vun, vextract, Nat.reduceLT, Nat.reduceEqDiff, ↓reduceIte, reduceCtorEq, Nat.reduceAdd, Int.reduceLT, Int.reduceNeg, valloc_std, noSB, vhot, gD0, gD1]
  obtain ⟨c1, c2⟩ := thereD_cases d n
  by_cases hz : thereD d n = 0
  · obtain ⟨a, b, p, hA, hr⟩ := there_ok h hok hz
    have hn := (readyD_named hr).1
    refine KD.ret (there_yes h hr hA) ?_
    have z2 : ¬ (0 : Int) = 2 := by decide
    have z1 : ¬ (0 : Int) = 1 := by decide
    simp only [k52_a, WK, vop, evAll, evOpt, evParts, vbuiltin, vun, vextract, Nat.reduceLT, Nat.reduceEqDiff, ↓reduceIte, reduceCtorEq, Nat.reduceAdd, Int.reduceLT, Int.reduceNeg, valloc_std, noSB, vhot, z2, z1, decide_false]
    refine KD.ret (named_does m σ) ?_
    have hz' : ¬ thereD d n ≠ 0 := fun h => h hz
    cases hm : namedD m with
    | false =>
      have e : renameD n m d = (1, d) := by unfold renameD; rw [if_pos (.inr hm)]
      simp only [k52_a, WK, vop, evAll, evOpt, evParts, vbuiltin, vun, vextract, Nat.reduceLT, Nat.reduceEqDiff, ↓reduceIte, reduceCtorEq, Nat.reduceAdd, Int.reduceLT, Int.reduceNeg, valloc_std, noSB, vhot, Bool.not_false, e]
      exact ⟨rfl, Next.refl h⟩
    | true =>
      have hnm : ¬ (namedD n = false ∨ namedD m = false) := by rw [hn, hm]; simp
      obtain ⟨σ1, r1, D1, r3, r4, σ2, r5, r6⟩ := rawNext h hok hw
      obtain ⟨f1, f2, f3, f4, f5⟩ := raw_files d
      simp only [k52_a, WK, vop, evAll, evOpt, evParts, vbuiltin, vun, vextract, Nat.reduceLT, Nat.reduceEqDiff, ↓reduceIte, reduceCtorEq, Nat.reduceAdd, Int.reduceLT, Int.reduceNeg, valloc_std, noSB, vhot, Bool.not_true]
      refine KD.ret r1 ?_
      cases hgo : (rawD d).1 with
      | true =>
        have e : renameD n m d = (20, offD d.keep (rawD d).2) := by unfold renameD; rw [if_neg hnm, if_neg hz', if_pos hgo]
        simp only [k52_a, WK, vop, evAll, evOpt, evParts, vbuiltin, vun, vextract, Nat.reduceLT, Nat.reduceEqDiff, ↓reduceIte, reduceCtorEq, Nat.reduceAdd, Int.reduceLT, Int.reduceNeg, valloc_std, noSB, vhot]
        refine KD.ret r5 ?_
        simp only [k52_a, WK, vop, evAll, evOpt, evParts, vbuiltin, vun, vextract, Nat.reduceLT, Nat.reduceEqDiff, ↓reduceIte, reduceCtorEq, Nat.reduceAdd, Int.reduceLT, Int.reduceNeg, valloc_std, noSB, vhot, e]
        exact ⟨rfl, r6⟩
      | false =>
        have A1 := hA.files (d2 := (rawD d).2) f1
        have e : renameD n m d = (0, { (rawD d).2 with files := putF ⟨m, p.1.safe, p.1.wait⟩ (dropF n d.files) }) := by
          unfold renameD; rw [if_neg hnm, if_neg hz', if_neg (by rw [hgo]; simp), hA.g]; rfl
        have lm : vload Tryz.prog σ1.objs 72 (.optr r 0) = some (.omap rm) := by rw [vload_obj D1.hd pGM]; rfl
        obtain ⟨σb, hdl, N1, K1, F1, Q1, J1, I1⟩ := D1.gone hok.raw A1
        have lm2 : vload Tryz.prog σb.objs 72 (.optr r 0) = some (.omap rm) := by rw [vload_obj N1.hd pGM]; rfl
        obtain ⟨σc, fs', hst, N2, K2, I2⟩ := N1.come (p := (⟨m, p.1.safe, p.1.wait⟩, p.2)) (hok.raw.drop n) ⟨F1.ob, F1.s, F1.w, F1.cs, F1.ds⟩ Q1 (fun x hx => (J1 x hx).2)
        simp only [k52_a, WK, vop, evAll, evOpt, evParts, vbuiltin, vun, vextract, Nat.reduceLT, Nat.reduceEqDiff, ↓reduceIte, reduceCtorEq, Nat.reduceAdd, Int.reduceLT, Int.reduceNeg, valloc_std, noSB, vhot, pFA r 0 (by omega), lm, hdl, lm2, hst, e]
        rw [f1] at N2
        have hrm : ∀ x ∈ [rm], x ∈ foot r rm fs ∨ σ1.objs.length ≤ x := fun x hx => .inl (by rw [List.mem_singleton] at hx; subst hx; simp [foot])
        refine ⟨rfl, Next.trans r3 (fun x hx => .inl hx) ⟨_, N2, (K1.mono hrm).trans K2 hrm, fun x hx => ?_⟩⟩
        rcases I2 x hx with h | h
        · exact .inl (I1 x h)
        · exact .inl (J1 x h).1
  · refine KD.ret (there_no h n hz) ?_
    have hz' : ¬ ((thereD d n : Nat) : Int) = 0 := by omega
    cases hn : namedD n with
    | false =>
      have ht := c1 hn
      have e : renameD n m d = (1, d) := by unfold renameD; rw [if_pos (.inl hn)]
      have z2 : ¬ (1 : Int) = 2 := by decide
      have ht' : ((thereD d n : Nat) : Int) = 1 := by omega
      rw [e]
      simp only [k52_a, WK, vop, evAll, evOpt, evParts, vbuiltin, vun, vextract, Nat.reduceLT, Nat.reduceEqDiff, ↓reduceIte, reduceCtorEq, Nat.reduceAdd, Int.reduceLT, Int.reduceNeg, valloc_std, noSB, vhot, ht', z2, decide_false, decide_true]
      exact ⟨rfl, Next.refl h⟩
    | true =>
      have h2 : ¬ ((thereD d n : Nat) : Int) = 2 := by have := c2 hn; omega
      have h1 : ¬ ((thereD d n : Nat) : Int) = 1 := by have := c2 hn; omega
      simp only [k52_a, WK, vop, evAll, evOpt, evParts, vbuiltin, vun, vextract, Nat.reduceLT, Nat.reduceEqDiff, ↓reduceIte, reduceCtorEq, Nat.reduceAdd, Int.reduceLT, Int.reduceNeg, valloc_std, noSB, vhot, h1, h2, decide_false]
      refine KD.ret (named_does m σ) ?_
      cases hm : namedD m with
      | false =>
        have e : renameD n m d = (1, d) := by unfold renameD; rw [if_pos (.inr hm)]
        simp only [k52_a, WK, vop, evAll, evOpt, evParts, vbuiltin, vun, vextract, Nat.reduceLT, Nat.reduceEqDiff, ↓reduceIte, reduceCtorEq, Nat.reduceAdd, Int.reduceLT, Int.reduceNeg, valloc_std, noSB, vhot, Bool.not_false, e]
        exact ⟨rfl, Next.refl h⟩
      | true =>
        have hnm : ¬ (namedD n = false ∨ namedD m = false) := by rw [hn, hm]; simp
        have e : renameD n m d = (thereD d n, d) := by unfold renameD; rw [if_neg hnm, if_pos hz]
        simp only [k52_a, WK, vop, evAll, evOpt, evParts, vbuiltin, vun, vextract, Nat.reduceLT, Nat.reduceEqDiff, ↓reduceIte, reduceCtorEq, Nat.reduceAdd, Int.reduceLT, Int.reduceNeg, valloc_std, noSB, vhot, Bool.not_true, hz', decide_false, e]
        exact Next.refl h
theorem TBB : Tryz.prog.underlying 60 = some (.slice 30) := by kernel_rfl
theorem grow_does {σ : St} {n : Nat} (hn : n ≤ 1000000000) : ∃ v q σ', Does Tryz.prog prims 95 [.nils, .int .i64 (n : Int)] σ (.ret v) σ' ∧ rowOf σ'.objs v = some (q, []) ∧ KS [] σ σ' ∧ ∀ x ∈ q.toList, σ.objs.length ≤ x := by
  have key : ∃ r σ', Does Tryz.prog prims 95 [.nils, .int .i64 (n : Int)] σ r σ' ∧ ∃ v q, r = .ret v ∧ rowOf σ'.objs v = some (q, []) ∧ KS [] σ σ' ∧ ∀ x ∈ q.toList, σ.objs.length ≤ x := by
    apply k95_is.does (by simp)
    have h0 : ¬ (n : Int) < 0 := by omega
    have hvc : vcap Tryz.prog 30 .nils = some (.int .i64 0) := by kernel_rfl
    have hvl : vlen Tryz.prog 30 .nils = some (.int .i64 0) := by kernel_rfl
    have hw0 : IntKind.i64.wrap ((0 : Int) - 0) = 0 := by decide
    have hwn : IntKind.i64.wrap ((n : Int) - 0) = n := by rw [wrap_i64 (by omega) (by omega)]; omega
    have hsl : vslice Tryz.prog 30 .nils none (some (.int .i64 0)) none = some .nils := by kernel_rfl
    by_cases hz : n = 0
    · have h1 : ¬ (0 : Int) < (n : Int) := by omega
      simp only [k95_a, WK, vop, evAll, evOpt, evParts, vbuiltin, vun, vextract, Nat.reduceLT, Nat.reduceEqDiff, ↓reduceIte, reduceCtorEq, Nat.reduceAdd, Int.reduceLT, Int.reduceNeg, valloc_std, noSB, vhot, gD0, gD1, h0, hvc, hvl, hw0, hwn, nilEP, h1, decide_false]
      exact ⟨.nils, none, rfl, rfl, KS.refl _ _, fun x hx => by cases hx⟩
    · have h1 : (0 : Int) < (n : Int) := by omega
      have hno : vappendRow Tryz.prog σ 30 3 .nils (.int .i64 (n : Int)) = none := by
        simp [vappendRow, pTB, bInfo, pS1, bZero, vnewsO, vnews, T3]
      have hmk : vappendMake Tryz.prog σ 30 3 .nils (.int .i64 (n : Int)) = some (.hslice σ.objs.length 0 1 n, ⟨σ.objs ++ [.cells []], σ.toks⟩) := by
        have : 0 < n := by omega
        have h9 : n ≤ 140737488355328 := by omega
        simp [vappendMake, pTB, bInfo, pS1, bZero, T3, vcells, this, h9]
      have hb := vbounds_hi (k := .i64) (n := 0) (len := n) (by omega) (by omega)
      have hs2 : vslice Tryz.prog 30 (.hslice σ.objs.length 0 1 n) none (some (.int .i64 0)) none = some (.hslice σ.objs.length 0 1 0) := by
        simp only [vslice, pTB, pS1, hb]
        simp
      simp only [k95_a, WK, vop, evAll, evOpt, evParts, vbuiltin, vun, vextract, Nat.reduceLT, Nat.reduceEqDiff, ↓reduceIte, reduceCtorEq, Nat.reduceAdd, Int.reduceLT, Int.reduceNeg, valloc_std, noSB, vhot, gD0, gD1, h0, hvc, hvl, hw0, hwn, nilEP, h1, decide_true, hsl, pTB, hno, hmk, hs2]
      refine ⟨_, some σ.objs.length, rfl, ?_, KS.push _ _ _, fun x hx => by simp at hx; omega⟩
      simp [rowOf]
  obtain ⟨r, σ', h1, v, q, rfl, h2⟩ := key
  exact ⟨v, q, σ', h1, h2⟩
theorem concat_does {σ : St} {pm : Perm} {vs : List V} {bss : List (List UInt8)} (hl : vs.length = bss.length) (hb : ∀ (i : Nat) (h : i < vs.length) (h' : i < bss.length), RB σ vs[i] bss[i]) (hlen : bss.flatten.length ≤ 1000000000) (hcl : bss.length ≤ 1000000000) :
    ∃ v q σ', Does Tryz.prog prims 81 [.slice pm 1 vs vs.length] σ (.ret v) σ' ∧ rowOf σ'.objs v = some (q, bss.flatten.map byteV) ∧ KS [] σ σ' ∧ ∀ x ∈ q.toList, σ.objs.length ≤ x := by
  have key : ∃ r σ', Does Tryz.prog prims 81 [.slice pm 1 vs vs.length] σ r σ' ∧ ∃ v q, r = .ret v ∧ rowOf σ'.objs v = some (q, bss.flatten.map byteV) ∧ KS [] σ σ' ∧ ∀ x ∈ q.toList, σ.objs.length ≤ x := by
    apply k81_is.does (by simp)
    have hvl : vlen Tryz.prog 60 (.slice pm 1 vs vs.length) = some (.int .i64 (vs.length : Nat)) := by simp [vlen, TBB]
    have haddr : ∀ i : Nat, i < vs.length → vindexAddr Tryz.prog 60 (.slice pm 1 vs vs.length) (.int .i64 (i : Int)) = some (.eptr vs i) := by
      intro i hi
      have h1 : vs.isEmpty = false := by cases vs with | nil => simp at hi | cons => rfl
      have h2 : (i : Int) < vs.length := by omega
      simp [vindexAddr, TBB, SBB, h1, h2]
    have hload : ∀ (s : St) (i : Nat) (hi : i < vs.length), vload Tryz.prog s.objs 30 (.eptr vs i) = some vs[i] := by
      intro s i hi
      simp [vload, vcellsAt, vpart, pGB, hi]
    have hsum : ∀ i, i ≤ bss.length → (bss.take i).flatten.length ≤ bss.flatten.length := by
      intro i hi
      have := congrArg List.length (congrArg List.flatten (List.take_append_drop i bss))
      rw [List.flatten_append, List.length_append] at this
      omega
    have hstep : ∀ i (h : i < bss.length), (bss.take (i + 1)).flatten = (bss.take i).flatten ++ bss[i] := by
      intro i h
      rw [List.take_succ_eq_append_getElem h, List.flatten_append]
      simp
    simp only [k81_a, WK, vop, evAll, evOpt, evParts, vbuiltin, vun, vextract, Nat.reduceLT, Nat.reduceEqDiff, ↓reduceIte, reduceCtorEq, Nat.reduceAdd, Int.reduceLT, Int.reduceNeg, valloc_std, noSB, vhot, gD0, gD1, hvl, nilEP]
    refine Ev.loopF (fun (i : Nat) e σ' => σ' = σ ∧ e 11 = .int .i64 (i : Nat) ∧ i ≤ vs.length ∧ e 3 = .int .i64 ((bss.take i).flatten.length : Nat)) (fun i => vs.length - i) 0 ⟨rfl, by simp [upd_some], Nat.zero_le _, by simp [upd_some]⟩ ?_
    rintro i e σ' ⟨rfl, h11, hi, h3⟩ hf
    have h0 : e 0 = .slice pm 1 vs vs.length := (hf 0 (by decide)).trans (by simp [upd_some])
    have h9 : e 9 = .slice pm 1 vs vs.length := (hf 9 (by decide)).trans (by simp [upd_some])
    have h10 : e 10 = .int .i64 (vs.length : Nat) := (hf 10 (by decide)).trans (by simp [upd_some])
    clear hf
    by_cases hlt : i < vs.length
    · have hlt' : (i : Int) < vs.length := by omega
      have hlb : i < bss.length := by omega
      have hwi : IntKind.i64.wrap ((i : Int) + 1) = ((i + 1 : Nat) : Int) := by rw [show ((i : Int) + 1) = ((i + 1 : Nat) : Int) from by omega]; exact wrap_nat (by omega)
      have hle := hsum (i + 1) (by omega)
      have hst := hstep i hlb
      have hws : IntKind.i64.wrap (((bss.take i).flatten.length : Nat) + (bss[i].length : Nat) : Int) = (((bss.take (i + 1)).flatten.length : Nat) : Int) := by
        rw [hst, List.length_append] at hle ⊢
        rw [wrap_i64 (by omega) (by omega)]; omega
      have hn0 : ¬ (((bss.take (i + 1)).flatten.length : Nat) : Int) < 0 := by omega
      simp only [k81_a, WK, vop, evAll, evOpt, evParts, vbuiltin, vun, vextract, Nat.reduceLT, Nat.reduceEqDiff, ↓reduceIte, reduceCtorEq, Nat.reduceAdd, Int.reduceLT, Int.reduceNeg, valloc_std, noSB, vhot, h9, h10, h11, h3, hlt', haddr i hlt, hload _ i hlt, (hb i hlt hlb).len, hws, hn0, hwi, decide_true, decide_false]
      exact ⟨i + 1, ⟨by simp [upd_some], by omega, by simp [upd_some]⟩, by omega⟩
    · have hlt' : ¬ (i : Int) < vs.length := by omega
      have hall : bss.take i = bss := List.take_of_length_le (by omega)
      rw [hall] at h3
      obtain ⟨v1, q1, s1, g1, g2, g3, g4⟩ := grow_does (σ := σ') hlen
      simp only [k81_a, WK, vop, evAll, evOpt, evParts, vbuiltin, vun, vextract, Nat.reduceLT, Nat.reduceEqDiff, ↓reduceIte, reduceCtorEq, Nat.reduceAdd, Int.reduceLT, Int.reduceNeg, valloc_std, noSB, vhot, h9, h10, h11, h3, hlt', decide_false, nilEP]
      refine KD.ret g1 ?_
      simp only [k81_a, WK, vop, evAll, evOpt, evParts, vbuiltin, vun, vextract, Nat.reduceLT, Nat.reduceEqDiff, ↓reduceIte, reduceCtorEq, Nat.reduceAdd, Int.reduceLT, Int.reduceNeg, valloc_std, noSB, vhot, h0, hvl]
      refine Ev.loopF (fun (j : Nat) e s => ∃ q, e 27 = .int .i64 (j : Nat) ∧ j ≤ vs.length ∧ rowOf s.objs (e 6) = some (q, (bss.take j).flatten.map byteV) ∧ KS [] σ' s ∧ ∀ x ∈ q.toList, σ'.objs.length ≤ x) (fun i => vs.length - i) 0 ⟨q1, by simp [upd_some], Nat.zero_le _, by simpa [upd_some] using g2, g3, g4⟩ ?_
      rintro j e2 s ⟨q, k27, hj, k6, kk, kq⟩ hf2
      have k25 : e2 25 = .slice pm 1 vs vs.length := (hf2 25 (by decide)).trans (by simp [upd_some])
      have k26 : e2 26 = .int .i64 (vs.length : Nat) := (hf2 26 (by decide)).trans (by simp [upd_some])
      clear hf2
      by_cases hlt2 : j < vs.length
      · have hlt2' : (j : Int) < vs.length := by omega
        have hlb : j < bss.length := by omega
        have hwi : IntKind.i64.wrap ((j : Int) + 1) = ((j + 1 : Nat) : Int) := by rw [show ((j : Int) + 1) = ((j + 1 : Nat) : Int) from by omega]; exact wrap_nat (by omega)
        have hR := (hb j hlt2 hlb).ks kk (fun q hq => by cases hq)
        have hle := hsum (j + 1) (by omega)
        rw [hstep j hlb, List.length_append] at hle
        have hbn := hR.news
        rw [← List.length_map (f := byteV)] at hbn
        obtain ⟨v', q', s2, a1, a2, a3, a4, a5⟩ := rowApp k6 hbn (byteV_one _) (by rw [List.length_map, List.length_map]; omega)
        simp only [k81_a, WK, vop, evAll, evOpt, evParts, vbuiltin, vun, vextract, Nat.reduceLT, Nat.reduceEqDiff, ↓reduceIte, reduceCtorEq, Nat.reduceAdd, Int.reduceLT, Int.reduceNeg, valloc_std, noSB, vhot, k25, k26, k27, hlt2', haddr j hlt2, hload _ j hlt2, hwi, a1, decide_true]
        refine ⟨j + 1, ⟨q', by simp [upd_some], by omega, ?_, kk.trans a3 fun x hx => .inr (kq x hx), fun x hx => ?_⟩, by omega⟩
        · rw [hstep j hlb, List.map_append]; simpa [upd_some] using a2
        · rcases a4 x hx with h | h
          · exact kq x h
          · have := kk.le; omega
      · have hlt2' : ¬ (j : Int) < vs.length := by omega
        have hall2 : bss.take j = bss := List.take_of_length_le (by omega)
        rw [hall2] at k6
        simp only [k81_a, WK, vop, evAll, evOpt, evParts, vbuiltin, vun, vextract, Nat.reduceLT, Nat.reduceEqDiff, ↓reduceIte, reduceCtorEq, Nat.reduceAdd, Int.reduceLT, Int.reduceNeg, valloc_std, noSB, vhot, k25, k26, k27, hlt2', decide_false]
        exact ⟨_, q, rfl, k6, kk, kq⟩
  obtain ⟨r, σ', h1, v, q, rfl, h2⟩ := key
  exact ⟨v, q, σ', h1, h2⟩
theorem mkRows2 (a b : V) (h1 : one a = true) (h2 : one b = true) : vbuildSlice Tryz.prog 60 2 [(0, a), (1, b)] = some (.slice .exact 1 [a, b] 2) := by
  have hz : zeroT Tryz.prog 30 = some .nils := by kernel_rfl
  have e : List.range 2 = [0, 1] := by decide
  have hn : vcells V.nils = [V.nils] := rfl
  simp [vbuildSlice, TBB, SBB, hz, hn, zeroCellsV, vfill, setAll, e, vcells_one h1, vcells_one h2, h1, h2]
theorem read_sees {σ : St} {r rm : Nat} {d : Dk} {fs : List Ent} {n : List UInt8} (h : DiskAt σ r d rm fs) (hok : d.Ok) :
    ∃ p σ', Does Tryz.prog prims 49 [.optr r 0, .str n] σ p σ' ∧ ∃ v q, p = .ret (.tuple [v, .int .i64 ((readD n d).1 : Nat)]) ∧ rowOf σ'.objs v = some (q, (readD n d).2.map byteV) ∧ KS [] σ σ' ∧ ∀ x ∈ q.toList, σ.objs.length ≤ x := by
  apply k49_is.does (by simp)
  simp only [k49_a, WK, vop, evAll, evOpt, evParts, vbuiltin, vun, vextract, Nat.reduceLT, Nat.reduceEqDiff, ↓reduceIte, reduceCtorEq, Nat.reduceAdd, Int.reduceLT, Int.reduceNeg, valloc_std, noSB, vhot, gD0, gD1, nilEP]
  by_cases hz : thereD d n = 0
  · obtain ⟨a, b, p, hA, hr⟩ := there_ok h hok hz
    have hz' : ¬ thereD d n ≠ 0 := fun h => h hz
    have e : readD n d = (0, p.1.safe ++ p.1.wait) := by unfold readD; rw [if_neg hz', hA.g]; rfl
    obtain ⟨g1, g2, g3⟩ := hA.ids h
    obtain ⟨l1, l2, v1, v2, hl, hn, hnd, hrf⟩ := hA.facts h hok
    obtain ⟨v, q, σ', c1, c2, c3, c4⟩ := concat_does (σ := σ) (pm := .exact) (vs := [p.2.s, p.2.w]) (bss := [p.1.safe, p.1.wait]) rfl (fun i h h' => by
      match i, h with
      | 0, _ => exact rowOf_rb g1.s
      | 1, _ => exact rowOf_rb g1.w) (by simp; omega) (by simp)
    refine KD.ret (there_yes h hr hA) ?_
    simp only [k49_a, WK, vop, evAll, evOpt, evParts, vbuiltin, vun, vextract, Nat.reduceLT, Nat.reduceEqDiff, ↓reduceIte, reduceCtorEq, Nat.reduceAdd, Int.reduceLT, Int.reduceNeg, valloc_std, noSB, vhot, pFF0, pFF1, l1, l2, mkRows2 p.2.s p.2.w (rowOf_one g1.s) (rowOf_one g1.w), nilEP]
    refine KD.ret c1 ?_
    simp only [k49_a, WK, vop, evAll, evOpt, evParts, vbuiltin, vun, vextract, Nat.reduceLT, Nat.reduceEqDiff, ↓reduceIte, reduceCtorEq, Nat.reduceAdd, Int.reduceLT, Int.reduceNeg, valloc_std, noSB, vhot, pFF0, pFF1, l1, l2, e]
    refine ⟨v, q, rfl, ?_, c3, c4⟩
    simpa using c2
  · refine KD.ret (there_no h n hz) ?_
    have hz' : ¬ ((thereD d n : Nat) : Int) = 0 := by omega
    have e : readD n d = (thereD d n, []) := by unfold readD; rw [if_pos hz]
    simp only [k49_a, WK, vop, evAll, evOpt, evParts, vbuiltin, vun, vextract, Nat.reduceLT, Nat.reduceEqDiff, ↓reduceIte, reduceCtorEq, Nat.reduceAdd, Int.reduceLT, Int.reduceNeg, valloc_std, noSB, vhot, hz', e, nilEP]
    exact ⟨.nils, none, rfl, rfl, KS.refl _ _, fun x hx => by cases hx⟩
theorem keys_does {σ : St} {rm : Nat} : ∃ t, Does Tryz.prog prims 78 [.omap rm] σ (.ret (.func 93 [.optr σ.objs.length 0])) ⟨σ.objs ++ [.tcells t [.omap rm]], σ.toks⟩ := by
  have key : ∃ r σ', Does Tryz.prog prims 78 [.omap rm] σ r σ' ∧ (r = .ret (.func 93 [.optr σ.objs.length 0]) ∧ ∃ t, σ' = ⟨σ.objs ++ [.tcells t [.omap rm]], σ.toks⟩) := by
    apply k78_is.does (by simp)
    have hn : ofVal .nilFunc = some .nilf := by kernel_rfl
    have hc : vcells (.omap rm) = [.omap rm] := rfl
    simp only [k78_a, WK, vop, evAll, evOpt, evParts, vbuiltin, vun, vextract, Nat.reduceLT, Nat.reduceEqDiff, ↓reduceIte, reduceCtorEq, Nat.reduceAdd, Int.reduceLT, Int.reduceNeg, valloc_std, noSB, vhot, gD0, gD1, hn, vboxT, hc]
    exact ⟨_, rfl⟩
  obtain ⟨r, σ', h, rfl, t, rfl⟩ := key
  exact ⟨t, h⟩
theorem strs_ents {fs : List Ent} : strsOf (fs.map fent) = some (fs.map fun p => p.1.name) := by
  induction fs with
  | nil => rfl
  | cons p fs ih => simp only [List.map_cons, fent, strsOf] at ih ⊢; rw [ih]; rfl
theorem leS_trans (a b c : List UInt8) : leS a b = true → leS b c = true → leS a c = true := by
  simp only [leS, decide_eq_true_eq]; exact List.le_trans
theorem leS_total (a b : List UInt8) : (leS a b || leS b a) = true := by
  simp only [leS, Bool.or_eq_true, decide_eq_true_eq]; exact List.le_total a b
theorem sort_names {d : Dk} (hok : d.Ok) {ks : List (List UInt8)} (h : ks.Perm (d.files.map Fl.name)) : ks.mergeSort leS = d.files.map Fl.name := by
  have h1 : (d.files.map Fl.name).Pairwise fun a b => a ≤ b := by
    rw [List.pairwise_map]
    exact hok.rise.imp fun {f g} hlt => List.le_of_lt hlt
  have h2 := (List.mergeSort_perm ks leS).trans h
  have h3 : (ks.mergeSort leS).Pairwise fun a b => a ≤ b := (List.pairwise_mergeSort leS_trans leS_total ks).imp fun {a b} hab => by simpa [leS] using hab
  exact h2.eq_of_pairwise (le := fun a b => a ≤ b) (fun a b _ _ hab hba => List.le_antisymm hab hba) h3 h1
theorem names_sees {σ : St} {r rm : Nat} {d : Dk} {fs : List Ent} (h : DiskAt σ r d rm fs) (hok : d.Ok) :
    ∃ p σ', Does Tryz.prog prims 36 [.optr r 0] σ p σ' ∧ ∃ v q, p = .ret v ∧ rowOf σ'.objs v = some (q, (namesD d).map V.str) ∧ KS [] σ σ' ∧ ∀ x ∈ q.toList, σ.objs.length ≤ x := by
  apply k36_is.does (by simp)
  have lo : vload Tryz.prog σ.objs 4 (.optr r 2) = some (.bool (!d.on)) := by rw [vload_obj h.hd G4]; rfl
  have lm : vload Tryz.prog σ.objs 72 (.optr r 0) = some (.omap rm) := by rw [vload_obj h.hd pGM]; rfl
  cases hon : d.on with
  | false =>
    rw [hon] at lo
    have e : namesD d = [] := by simp [namesD, hon]
    simp only [k36_a, WK, vop, evAll, evOpt, evParts, vbuiltin, vun, vextract, Nat.reduceLT, Nat.reduceEqDiff, ↓reduceIte, reduceCtorEq, Nat.reduceAdd, Int.reduceLT, Int.reduceNeg, valloc_std, noSB, vhot, gD0, gD1, nilEP, ofNilP, eql_optr pTD, pFA r 2 (by omega), lo, Bool.not_false, e]
    exact ⟨.nils, none, rfl, rfl, KS.refl _ _, fun x hx => by cases hx⟩
  | true =>
    rw [hon] at lo
    have e : namesD d = d.files.map Fl.name := by simp [namesD, hon]
    obtain ⟨t, hk⟩ := keys_does (σ := σ) (rm := rm)
    obtain ⟨s1, hs1⟩ : ∃ s1 : St, s1 = ⟨σ.objs ++ [.tcells t [.omap rm]], σ.toks⟩ := ⟨_, rfl⟩
    rw [← hs1] at hk
    have K1 : KS [] σ s1 := by rw [hs1]; exact KS.push _ _ _
    have D1 : DiskAt s1 r d rm fs := by rw [hs1]; exact h.pushed _
    have L1 : s1.objs.length = σ.objs.length + 1 := by rw [hs1]; simp
    have hb : s1.objs[σ.objs.length]? = some (.tcells t [.omap rm]) := by rw [hs1]; exact push_new _ _
    have hperm : (fs.map fun p => p.1.name).Perm (d.files.map Fl.name) := by
      have := h.pm.map Fl.name
      rw [List.map_map] at this
      exact this
    have hsort := sort_names hok hperm
    have hnd := h.names hok
    have hlen : (fs.map fun p => p.1.name).length ≤ 16 := by rw [hperm.length_eq, List.length_map]; exact hok.few
    have hsm : ((fs.map fun p => p.1.name).all fun s => decide (s.length ≤ 140737488355328)) = true := by
      rw [List.all_eq_true]
      intro s hs
      obtain ⟨f, hf, rfl⟩ := List.mem_map.1 (hperm.mem_iff.1 hs)
      have := hok.nm f hf
      simp only [namedD, decide_eq_true_eq] at this ⊢
      omega
    have hp : ∃ v s2 q, Does Tryz.prog prims 77 [.func 93 [.optr σ.objs.length 0]] s1 (.ret v) s2 ∧ rowOf s2.objs v = some (q, (namesD d).map V.str) ∧ KS [] s1 s2 ∧ ∀ x ∈ q.toList, s1.objs.length ≤ x := by
      by_cases h0 : (fs.map fun p => p.1.name) = []
      · refine ⟨.nils, s1, none, Does.prim (by kernel_rfl) ?_, ?_, KS.refl _ _, fun x hx => by cases hx⟩
        · simp only [prims]
          rw [if_neg (by decide +kernel), if_neg (by decide +kernel), if_pos trivial]
          simp only [sortedP, hb, D1.hm, strs_ents, ↓reduceIte]
          rw [if_pos ⟨hnd, by omega, hsm⟩, if_pos h0]
        · rw [e, ← hsort, h0, List.mergeSort_nil]; rfl
      · refine ⟨.hslice s1.objs.length 0 1 (fs.map fun p => p.1.name).length, ⟨s1.objs ++ [.cells (((fs.map fun p => p.1.name).mergeSort leS).map V.str)], s1.toks⟩, some s1.objs.length, Does.prim (by kernel_rfl) ?_, ?_, KS.push _ _ _, fun x hx => by simp at hx; omega⟩
        · simp only [prims]
          rw [if_neg (by decide +kernel), if_neg (by decide +kernel), if_pos trivial]
          simp only [sortedP, hb, D1.hm, strs_ents, ↓reduceIte]
          rw [if_pos ⟨hnd, by omega, hsm⟩, if_neg h0]
        · have hl : (fs.map fun p => p.1.name).length = (((fs.map fun p => p.1.name).mergeSort leS).map V.str).length := by simp [List.length_mergeSort]
          have hpn := push_new s1.objs (.cells (((fs.map fun p => p.1.name).mergeSort leS).map V.str))
          simp only [rowOf, hpn]
          rw [if_pos (by rw [← hl]; exact Nat.le_refl _), hl, List.take_of_length_le (Nat.le_refl _), hsort, e]
    obtain ⟨v, s2, q, h1, h2, h3, h4⟩ := hp
    simp only [k36_a, WK, vop, evAll, evOpt, evParts, vbuiltin, vun, vextract, Nat.reduceLT, Nat.reduceEqDiff, ↓reduceIte, reduceCtorEq, Nat.reduceAdd, Int.reduceLT, Int.reduceNeg, valloc_std, noSB, vhot, gD0, gD1, nilEP, ofNilP, eql_optr pTD, pFA r 2 (by omega), pFA r 0 (by omega), lo, lm, Bool.not_true]
    refine KD.ret hk ?_
    simp only [k36_a, WK, vop, evAll, evOpt, evParts, vbuiltin, vun, vextract, Nat.reduceLT, Nat.reduceEqDiff, ↓reduceIte, reduceCtorEq, Nat.reduceAdd, Int.reduceLT, Int.reduceNeg, valloc_std, noSB, vhot]
    refine KD.ret h1 ?_
    simp only [k36_a, WK, vop, evAll, evOpt, evParts, vbuiltin, vun, vextract, Nat.reduceLT, Nat.reduceEqDiff, ↓reduceIte, reduceCtorEq, Nat.reduceAdd, Int.reduceLT, Int.reduceNeg, valloc_std, noSB, vhot]
    exact ⟨v, q, rfl, h2, K1.trans' h3, fun x hx => by have := h4 x hx; omega⟩
theorem room_does {σ : St} {r rm : Nat} {d : Dk} {fs : List Ent} (h : DiskAt σ r d rm fs) (n : Int) : ∃ σ', Does Tryz.prog prims 23 [.optr r 0, .int .i64 n] σ (.ret (.tuple [])) σ' ∧ Next σ r rm fs σ' { d with room := n } := by
  have key : ∃ p σ', Does Tryz.prog prims 23 [.optr r 0, .int .i64 n] σ p σ' ∧ (p = .ret (.tuple []) ∧ Next σ r rm fs σ' { d with room := n }) := by
    apply k23_is.does (by simp)
    obtain ⟨s1, hs1⟩ : ∃ s1 : St, s1 = ⟨σ.objs.set r (.cells (dcells rm { d with room := n })), σ.toks⟩ := ⟨_, rfl⟩
    have st1 : vstore Tryz.prog σ 3 (.optr r 1) (.int .i64 n) = some s1 := by rw [vstore_obj h.hd S3 rfl (by simp [dcells]), hs1]; rfl
    obtain ⟨D1, K1⟩ := h.head (d2 := { d with room := n }) rfl hs1
    simp only [k23_a, WK, vop, evAll, evOpt, evParts, vbuiltin, vun, vextract, Nat.reduceLT, Nat.reduceEqDiff, ↓reduceIte, reduceCtorEq, Nat.reduceAdd, Int.reduceLT, Int.reduceNeg, valloc_std, noSB, vhot, gD0, gD1, ofNilP, neq_optr pTD, pFA r 1 (by omega), st1]
    exact ⟨fs, D1, K1, fun x hx => .inl hx⟩
  obtain ⟨p, σ', h1, rfl, h2⟩ := key
  exact ⟨σ', h1, h2⟩
theorem on_does {σ : St} {r rm : Nat} {d : Dk} {fs : List Ent} (h : DiskAt σ r d rm fs) : ∃ σ', Does Tryz.prog prims 22 [.optr r 0] σ (.ret (.tuple [])) σ' ∧ Next σ r rm fs σ' { d with on := true } := by
  have key : ∃ p σ', Does Tryz.prog prims 22 [.optr r 0] σ p σ' ∧ (p = .ret (.tuple []) ∧ Next σ r rm fs σ' { d with on := true }) := by
    apply k22_is.does (by simp)
    obtain ⟨s1, hs1⟩ : ∃ s1 : St, s1 = ⟨σ.objs.set r (.cells (dcells rm { d with on := true })), σ.toks⟩ := ⟨_, rfl⟩
    have st1 : vstore Tryz.prog σ 4 (.optr r 2) (.bool false) = some s1 := by rw [vstore_obj h.hd S4 rfl (by simp [dcells]), hs1]; rfl
    obtain ⟨D1, K1⟩ := h.head (d2 := { d with on := true }) rfl hs1
    simp only [k22_a, WK, vop, evAll, evOpt, evParts, vbuiltin, vun, vextract, Nat.reduceLT, Nat.reduceEqDiff, ↓reduceIte, reduceCtorEq, Nat.reduceAdd, Int.reduceLT, Int.reduceNeg, valloc_std, noSB, vhot, gD0, gD1, ofNilP, neq_optr pTD, pFA r 2 (by omega), st1]
    exact ⟨fs, D1, K1, fun x hx => .inl hx⟩
  obtain ⟨p, σ', h1, rfl, h2⟩ := key
  exact ⟨σ', h1, h2⟩
theorem arm_does {σ : St} {r rm : Nat} {d : Dk} {fs : List Ent} (h : DiskAt σ r d rm fs) (n k : Int) : ∃ σ', Does Tryz.prog prims 18 [.optr r 0, .int .i64 n, .int .i64 k] σ (.ret (.tuple [])) σ' ∧ Next σ r rm fs σ' (armD n k d) := by
  have key : ∃ p σ', Does Tryz.prog prims 18 [.optr r 0, .int .i64 n, .int .i64 k] σ p σ' ∧ (p = .ret (.tuple []) ∧ Next σ r rm fs σ' (armD n k d)) := by
    apply k18_is.does (by simp)
    have hmx : vmm true (.int .i64 n) (.int .i64 0) = some (.int .i64 (n.toNat : Nat)) := by
      simp only [vmm, ↓reduceIte]
      congr 2
      split <;> omega
    obtain ⟨s1, hs1⟩ : ∃ s1 : St, s1 = ⟨σ.objs.set r (.cells (dcells rm { d with armed := n.toNat })), σ.toks⟩ := ⟨_, rfl⟩
    have st1 : vstore Tryz.prog σ 3 (.optr r 4) (.int .i64 (n.toNat : Nat)) = some s1 := by rw [vstore_obj h.hd S3 rfl (by simp [dcells]), hs1]; rfl
    obtain ⟨D1, K1⟩ := h.head (d2 := { d with armed := n.toNat }) rfl hs1
    obtain ⟨s2, hs2⟩ : ∃ s2 : St, s2 = ⟨s1.objs.set r (.cells (dcells rm (armD n k d))), s1.toks⟩ := ⟨_, rfl⟩
    have st2 : vstore Tryz.prog s1 3 (.optr r 5) (.int .i64 k) = some s2 := by rw [vstore_obj D1.hd S3 rfl (by simp [dcells]), hs2]; rfl
    obtain ⟨D2, K2⟩ := D1.head (d2 := armD n k d) rfl hs2
    simp only [k18_a, WK, vop, evAll, evOpt, evParts, vbuiltin, vun, vextract, Nat.reduceLT, Nat.reduceEqDiff, ↓reduceIte, reduceCtorEq, Nat.reduceAdd, Int.reduceLT, Int.reduceNeg, valloc_std, noSB, vhot, gD0, gD1, ofNilP, neq_optr pTD, pFA r 4 (by omega), pFA r 5 (by omega), hmx, st1, st2]
    exact ⟨fs, D2, K1.trans' K2, fun x hx => .inl hx⟩
  obtain ⟨p, σ', h1, rfl, h2⟩ := key
  exact ⟨σ', h1, h2⟩
theorem down_does {σ : St} {r rm : Nat} {d : Dk} {fs : List Ent} (h : DiskAt σ r d rm fs) : Does Tryz.prog prims 48 [.optr r 0] σ (.ret (.bool (!d.on))) σ := by
  apply k48_is.ret (by simp)
  have lo : vload Tryz.prog σ.objs 4 (.optr r 2) = some (.bool (!d.on)) := by rw [vload_obj h.hd G4]; rfl
  simp only [k48_a, WK, vop, evAll, evOpt, evParts, vbuiltin, vun, vextract, Nat.reduceLT, Nat.reduceEqDiff, ↓reduceIte, reduceCtorEq, Nat.reduceAdd, Int.reduceLT, Int.reduceNeg, valloc_std, noSB, vhot, gD0, gD1, ofNilP, neq_optr pTD, pFA r 2 (by omega), lo]
theorem writes_does {σ : St} {r rm : Nat} {d : Dk} {fs : List Ent} (h : DiskAt σ r d rm fs) : Does Tryz.prog prims 63 [.optr r 0] σ (.ret (.int .i64 (d.writes : Nat))) σ := by
  apply k63_is.ret (by simp)
  have lo : vload Tryz.prog σ.objs 3 (.optr r 3) = some (.int .i64 (d.writes : Nat)) := by rw [vload_obj h.hd G3]; rfl
  simp only [k63_a, WK, vop, evAll, evOpt, evParts, vbuiltin, vun, vextract, Nat.reduceLT, Nat.reduceEqDiff, ↓reduceIte, reduceCtorEq, Nat.reduceAdd, Int.reduceLT, Int.reduceNeg, valloc_std, noSB, vhot, gD0, gD1, ofNilP, eql_optr pTD, pFA r 3 (by omega), lo]
def newD (n : Int) : Dk := ⟨[], n, true, 0, 0, 0⟩
theorem newdisk_does (σ : St) (n : Int) : ∃ σ' r rm, Does Tryz.prog prims 7 [.int .i64 n] σ (.ret (.optr r 0)) σ' ∧ DiskAt σ' r (newD n) rm [] ∧ KS [] σ σ' ∧ ∀ x ∈ foot r rm [], σ.objs.length ≤ x := by
  have key : ∃ p σ', Does Tryz.prog prims 7 [.int .i64 n] σ p σ' ∧ ∃ r rm, p = .ret (.optr r 0) ∧ DiskAt σ' r (newD n) rm [] ∧ KS [] σ σ' ∧ ∀ x ∈ foot r rm [], σ.objs.length ≤ x := by
    apply k7_is.does (by simp)
    have hb : ∀ m : Nat, vbuild Tryz.prog 74 [(0, .omap m), (1, .int .i64 n)] = some (.agg [.omap m, .int .i64 n, .bool false, .int .i64 0, .int .i64 0, .int .i64 0]) := fun m => by kernel_rfl
    simp only [k7_a, WK, vop, evAll, evOpt, evParts, vbuiltin, vun, vextract, Nat.reduceLT, Nat.reduceEqDiff, ↓reduceIte, reduceCtorEq, Nat.reduceAdd, Int.reduceLT, Int.reduceNeg, valloc_std, noSB, vhot, gD0, gD1, ofNilP, vmakeMap, hb, vbox, vcells]
    refine ⟨σ.objs.length + 1, σ.objs.length, by simp, ⟨?_, ?_, fun p hp => (by cases hp), by simp [foot], by simp [newD]⟩, (KS.push [] σ (.mp [])).trans' (KS.push [] ⟨σ.objs ++ [.mp []], σ.toks⟩ _), fun x hx => by simp [foot] at hx; omega⟩
    · have := push_new (σ.objs ++ [Ob.mp []]) (.cells (dcells σ.objs.length (newD n)))
      simp only [List.length_append, List.length_cons, List.length_nil, Nat.zero_add] at this
      exact this
    · simp only
      rw [gA2 (by simp)]
      exact push_new _ _
  obtain ⟨p, σ', h1, r, rm, rfl, h2⟩ := key
  exact ⟨σ', r, rm, h1, h2⟩
theorem newD_ok {n : Int} (h : InI64 n) : (newD n).Ok := ⟨by simp [newD], fun f hf => (by cases hf), by simp [newD], fun f hf => (by cases hf), by simp [newD], h, by unfold InI64; simp [newD]⟩
def RowS (σ : St) (k : Nat) (w : V) (cs : List V) (n : Nat) : Prop := RowV k w cs n ∨ (cs.length = n * k ∧ ∃ r off c, w = .hslice r off k n ∧ σ.objs[r]? = some (.cells c) ∧ off + n * k ≤ c.length ∧ (c.drop off).take (n * k) = cs)
section
variable {σ : St} {k n : Nat} {w : V} {cs : List V}
theorem RowS.keep {σ' : St} (h : RowS σ k w cs n) (hk : Keep σ σ') : RowS σ' k w cs n := by
  rcases h with h | ⟨h0, r, off, c, h1, h2, h3⟩
  · exact .inl h
  · exact .inr ⟨h0, r, off, c, h1, hk.1 _ _ h2, h3⟩
theorem RowS.size (h : RowS σ k w cs n) : cs.length = n * k := by
  rcases h with h | ⟨h0, _⟩
  · exact h.1
  · exact h0
theorem RowS.one (h : RowS σ k w cs n) : one w = true := by
  rcases h with h | ⟨h0, r, off, c, rfl, _⟩
  · exact h.one
  · rfl
theorem RowS.len (h : RowS σ k w cs n) {t e : TypeId} (ht : Tryz.prog.underlying t = some (.slice e)) : vlen Tryz.prog t w = some (.int .i64 (n : Nat)) := by
  rcases h with h | ⟨h0, r, off, c, rfl, _⟩
  · exact h.len ht
  · simp [vlen, ht]
def At (σ : St) (p : V) (c : List V) : Prop := (∃ cs o, p = .eptr cs o ∧ o + c.length ≤ cs.length ∧ (cs.drop o).take c.length = c) ∨ ∃ r o cs, p = .optr r o ∧ σ.objs[r]? = some (.cells cs) ∧ o + c.length ≤ cs.length ∧ (cs.drop o).take c.length = c
theorem RowS.at (h : RowS σ k w cs n) {t e : TypeId} (ht : Tryz.prog.underlying t = some (.slice e)) (hs : sizeT Tryz.prog e = some k) (hk : 0 < k) {i : Nat} (hi : i < n) {kk : IntKind} :
    ∃ p, vindexAddr Tryz.prog t w (.int kk (i : Int)) = some p ∧ At σ p ((cs.drop (i * k)).take k) := by
  have hsz := h.size
  have hle : i * k + k ≤ n * k := by
    have : (i + 1) * k ≤ n * k := Nat.mul_le_mul_right k hi
    rwa [Nat.add_mul, Nat.one_mul] at this
  have hpl : ((cs.drop (i * k)).take k).length = k := by rw [List.length_take, List.length_drop]; omega
  rcases h with h | ⟨h0, r, off, c, rfl, h2, h3, h4⟩
  · refine ⟨_, RowV.addr h ht hs hk (kk := kk) (i := (i : Int)) (by omega) (by omega), .inl ⟨cs, i * k, by rw [Int.toNat_natCast], by rw [hpl]; omega, by rw [hpl]⟩⟩
  · have hi' : (i : Int) < n := by omega
    refine ⟨.optr r (off + i * k), by simp [vindexAddr, ht, hs, hi'], .inr ⟨r, _, c, rfl, h2, by rw [hpl]; omega, ?_⟩⟩
    rw [hpl, ← h4, List.drop_take, List.drop_drop, List.take_take]
    congr 1
    omega
theorem At.keep {σ' : St} {p : V} {c : List V} (h : At σ p c) (hk : Keep σ σ') : At σ' p c := by
  rcases h with h | ⟨r, o, cs, h1, h2, h3⟩
  · exact .inl h
  · exact .inr ⟨r, o, cs, h1, hk.1 _ _ h2, h3⟩
theorem At.load {p : V} {c : List V} (h : At σ p c) {e : TypeId} (ha : isAggT Tryz.prog e = some true) (hs : sizeT Tryz.prog e = some c.length) : vload Tryz.prog σ.objs e p = some (.agg c) := by
  rcases h with ⟨cs, o, rfl, h1, h2⟩ | ⟨r, o, cs, rfl, hr, h1, h2⟩
  · simp only [vload, vcellsAt, vpart, ha, hs, if_pos h1, h2]
  · simp only [vload, vcellsAt, hr, vpart, ha, hs, if_pos h1, h2]
theorem At.load1 {p : V} {v : V} (h : At σ p [v]) {e : TypeId} (ha : isAggT Tryz.prog e = some false) : vload Tryz.prog σ.objs e p = some v := by
  have key : ∀ (cs : List V) (o : Nat), o + 1 ≤ cs.length → (cs.drop o).take 1 = [v] → cs[o]? = some v := by
    intro cs o h1 h2
    have := congrArg (·[0]?) h2
    simpa using this
  rcases h with ⟨cs, o, rfl, h1, h2⟩ | ⟨r, o, cs, rfl, hr, h1, h2⟩
  · simp only [vload, vcellsAt, vpart, ha]; exact key cs o h1 h2
  · simp only [vload, vcellsAt, hr, vpart, ha]; exact key cs o h1 h2
theorem At.part {p : V} {c : List V} (h : At σ p c) {j m : Nat} (hj : j + m ≤ c.length) : ∃ p', (∀ (e : TypeId) (f : Nat), (∀ q o, vfieldAddr Tryz.prog e (.optr q o) f = some (.optr q (o + j))) → (∀ cs o, vfieldAddr Tryz.prog e (.eptr cs o) f = some (.eptr cs (o + j))) → vfieldAddr Tryz.prog e p f = some p') ∧ At σ p' ((c.drop j).take m) := by
  have hpl : ((c.drop j).take m).length = m := by rw [List.length_take, List.length_drop]; omega
  have cut : ∀ (cs : List V) (o : Nat), o + c.length ≤ cs.length → (cs.drop o).take c.length = c → (cs.drop (o + j)).take m = (c.drop j).take m := by
    intro cs o h1 h2
    have h3 : c.drop j = ((cs.drop o).take c.length).drop j := by rw [h2]
    rw [h3, List.drop_take, List.drop_drop, List.take_take]
    congr 1
    omega
  rcases h with ⟨cs, o, rfl, h1, h2⟩ | ⟨r, o, cs, rfl, hr, h1, h2⟩
  · exact ⟨.eptr cs (o + j), fun e f _ h => h cs o, .inl ⟨cs, o + j, rfl, by rw [hpl]; omega, by rw [hpl]; exact cut cs o h1 h2⟩⟩
  · exact ⟨.optr r (o + j), fun e f h _ => h r o, .inr ⟨r, o + j, cs, rfl, hr, by rw [hpl]; omega, by rw [hpl]; exact cut cs o h1 h2⟩⟩
end
end Go.Proofs.YtnegdinonfjdfaaGreatDoor.Q
namespace Go.Proofs.YtnegdinonfjdfaaGreatDoor.Q
open Go Go.RowKit Go.Proofs
theorem off_writes (k : Int) (d : Dk) : (offD k d).writes = d.writes := by unfold offD; split <;> rfl
theorem goes_ok {d : Dk} (h : d.Ok) (k : Int) : (offD k (rawD d).2).Ok := h.raw.off k
theorem append_ok {n b : List UInt8} {d : Dk} (h : d.Ok) : (appendD n b d).2.Ok ∧ (appendD n b d).2.writes ≤ d.writes + 1 := by
  unfold appendD
  split
  · exact ⟨h, by simp⟩
  · rename_i hr
    have hr0 : readyD d n = 0 := Classical.byContradiction hr
    have hn := (readyD_named hr0).1
    simp only
    split
    · exact ⟨h, by simp⟩
    · rename_i hl
      split
      · exact ⟨h, by simp⟩
      · rename_i hf
        have ok2 : ({ d with files := putF ⟨n, ((getF d.files n).getD ⟨n, [], []⟩).safe, ((getF d.files n).getD ⟨n, [], []⟩).wait ++ b⟩ d.files } : Dk).Ok := by
          refine h.put hn ?_ fun hno => ?_
          · simp only [Fl.len, List.length_append] at hl ⊢; omega
          · have : ¬ 16 ≤ d.files.length := fun h1 => hf (.inl ⟨hno, h1⟩)
            omega
        have rf := raw_files { d with files := putF ⟨n, ((getF d.files n).getD ⟨n, [], []⟩).safe, ((getF d.files n).getD ⟨n, [], []⟩).wait ++ b⟩ d.files }
        split
        · exact ⟨goes_ok ok2 _, by rw [off_writes, rf.2.2.2.2]; simp⟩
        · exact ⟨ok2.raw, by rw [rf.2.2.2.2]; simp⟩
theorem put_same {d : Dk} (h : d.Ok) {n : List UInt8} (ht : thereD d n = 0) {s w : List UInt8} (hl : s.length + w.length ≤ 1048576) : ({ (rawD d).2 with files := putF ⟨n, s, w⟩ d.files } : Dk).Ok := by
  obtain ⟨hr, f, hg⟩ := thereD_zero ht
  have h1 : ({ (rawD d).2 with files := putF ⟨n, s, w⟩ (rawD d).2.files } : Dk).Ok := h.raw.put (readyD_named hr).1 (by simp only [Fl.len]; omega) fun hno => by
    rw [(raw_files d).1, hg] at hno; cases hno
  rw [(raw_files d).1] at h1
  exact h1
theorem raw_w (d : Dk) : (rawD d).2.writes = d.writes + 1 := (raw_files d).2.2.2.2
theorem sync_ok {n : List UInt8} {d : Dk} (h : d.Ok) : (syncD n d).2.Ok ∧ (syncD n d).2.writes ≤ d.writes + 1 := by
  unfold syncD
  split
  · exact ⟨h, by simp⟩
  · rename_i ht
    have ht0 : thereD d n = 0 := Classical.byContradiction ht
    obtain ⟨hr, f, hg⟩ := thereD_zero ht0
    have hl := (h.get hg).2.2.2
    split
    · exact ⟨goes_ok h _, by rw [off_writes, raw_w]; simp⟩
    · simp only [hg, Option.getD_some]
      exact ⟨put_same h ht0 (by simpa [Fl.len] using hl), by rw [raw_w]; simp⟩
theorem rename_ok {n m : List UInt8} {d : Dk} (h : d.Ok) : (renameD n m d).2.Ok ∧ (renameD n m d).2.writes ≤ d.writes + 1 := by
  unfold renameD
  split
  · exact ⟨h, by simp⟩
  · rename_i hnm
    split
    · exact ⟨h, by simp⟩
    · rename_i ht
      have ht0 : thereD d n = 0 := Classical.byContradiction ht
      obtain ⟨hr, f, hg⟩ := thereD_zero ht0
      have hl := (h.get hg).2.2.2
      split
      · exact ⟨goes_ok h _, by rw [off_writes, raw_w]; simp⟩
      · simp only [hg, Option.getD_some]
        have hm : namedD m = true := by
          cases hm : namedD m with
          | true => rfl
          | false => exact absurd (.inr hm) hnm
        have ok1 : ({ (rawD d).2 with files := dropF n d.files } : Dk).Ok := by
          have := h.raw.drop n
          rw [(raw_files d).1] at this
          exact this
        have hlen : (dropF n d.files).length < 16 := by
          have hf := h.few
          have hmem := (getF_some hg)
          have : (dropF n d.files).length < d.files.length := by
            unfold dropF
            exact List.length_filter_lt_length_iff_exists.2 ⟨f, hmem.1, by simp [hmem.2]⟩
          omega
        exact ⟨ok1.put hm (by simpa [Fl.len] using hl) fun _ => hlen, by rw [raw_w]; simp⟩
theorem remove_ok {n : List UInt8} {d : Dk} (h : d.Ok) : (removeD n d).2.Ok ∧ (removeD n d).2.writes ≤ d.writes + 1 := by
  unfold removeD
  split
  · exact ⟨h, by simp⟩
  · split
    · exact ⟨goes_ok h _, by rw [off_writes, raw_w]; simp⟩
    · have := h.raw.drop n
      rw [(raw_files d).1] at this
      exact ⟨this, by rw [raw_w]; simp⟩
theorem KS.nils {S : List Nat} {σ σ' : St} (h : KS [] σ σ') : KS S σ σ' := h.mono fun x hx => by cases hx
theorem DiskAt.pushes {σ σ' : St} {r rm : Nat} {d : Dk} {fs : List Ent} (h : DiskAt σ r d rm fs) (hk : KS [] σ σ') : DiskAt σ' r d rm fs := h.keep hk fun x _ => by simp
theorem eqlB (t : TypeId) (ht : t = 4) (a b : Operand) (x y : Bool) : vbin Tryz.prog .eql t a b (.bool x) (.bool y) = some (.bool (x == y)) := by
  subst ht
  cases x <;> cases y <;> kernel_rfl
theorem readD_len {d : Dk} (hok : d.Ok) (n : List UInt8) : (readD n d).2.length ≤ 1048576 := by
  unfold readD
  split
  · simp
  · rename_i ht
    have ht0 : thereD d n = 0 := Classical.byContradiction ht
    obtain ⟨hr, f, hg⟩ := thereD_zero ht0
    have := (hok.get hg).2.2.2
    simp only [hg, Option.getD_some, List.length_append, Fl.len] at this ⊢
    exact this
theorem namesD_len {d : Dk} (hok : d.Ok) : (namesD d).length ≤ 16 := by
  have := hok.few
  unfold namesD
  split <;> simp
  omega
theorem TSS : Tryz.prog.underlying 70 = some (.slice 9) := by kernel_rfl
theorem SS9 : sizeT Tryz.prog 9 = some 1 := by kernel_rfl
theorem SR : RowT Tryz.prog 70 9 1 16 := ⟨TSS, by kernel_rfl, ⟨_, (by kernel_rfl : zeroT Tryz.prog 9 = some (.str [])), rfl⟩, by kernel_rfl, by omega⟩
theorem row_strs {σ : St} {v : V} {q : Option Nat} {l : List (List UInt8)} (h : rowOf σ.objs v = some (q, l.map V.str)) : RowS σ 1 v (l.map V.str) l.length := by
  rcases rowOf_spec h with ⟨rfl, rfl, h0⟩ | ⟨r, full, rfl, rfl, hr, hl, hc⟩
  · refine .inl ⟨by simp, .inl ⟨rfl, ?_⟩⟩
    have := congrArg List.length h0
    simpa using this
  · simp only [List.length_map] at hl hc ⊢
    exact .inr ⟨by simp, r, 0, full, rfl, hr, by omega, by rw [List.drop_zero, Nat.mul_one]; exact hc.symm⟩
theorem RowS.strAt {σ : St} {v : V} {l : List (List UInt8)} (h : RowS σ 1 v (l.map V.str) l.length) {i : Nat} (hi : i < l.length) : ∃ p, vindexAddr Tryz.prog 70 v (.int .i64 (i : Int)) = some p ∧ ∀ σ', KS [] σ σ' → vload Tryz.prog σ'.objs 9 p = some (.str l[i]) := by
  obtain ⟨p, h1, h2⟩ := h.at TSS SS9 (by omega) (i := i) (by simpa using hi) (kk := .i64)
  refine ⟨p, h1, fun σ' hk => ?_⟩
  have e : ((l.map V.str).drop (i * 1)).take 1 = [V.str l[i]] := by
    rw [Nat.mul_one, List.drop_eq_getElem_cons (by simpa using hi)]
    simp
  rw [e] at h2
  exact (h2.keep hk.keep).load1 G9
theorem DiskAt.objs {σ σ' : St} {r rm : Nat} {d : Dk} {fs : List Ent} (h : DiskAt σ r d rm fs) (e : σ'.objs = σ.objs) : DiskAt σ' r d rm fs := ⟨by rw [e]; exact h.hd, by rw [e]; exact h.hm, by rw [e]; exact h.hf, h.nd, h.pm⟩
theorem OwnV.toks {e m : Nat} {σ σ' : St} {v : V} {bs : List UInt8} (h : OwnV e m σ v bs) (hk : ∀ k, tokLive σ.toks k = true → tokLive σ'.toks k = true) : OwnV e m σ' v bs := (h.toR.keep hk).toV
def Free (q : Option Nat) (F : List Nat) : Prop := ∀ x ∈ q.toList, x ∉ F
theorem Free.step {q : Option Nat} {F F' : List Nat} {n : Nat} (h : Free q F) (hl : ∀ x ∈ q.toList, x < n) (hF : ∀ x ∈ F', x ∈ F ∨ n ≤ x) : Free q F' := fun x hx hx2 => by
  rcases hF x hx2 with h1 | h1
  · exact h x hx h1
  · have := hl x hx; omega
theorem Free.low {q : Option Nat} {F : List Nat} {n : Nat} (hl : ∀ x ∈ q.toList, x < n) (hF : ∀ x ∈ F, n ≤ x) : Free q F := fun x hx hx2 => by
  have := hl x hx; have := hF x hx2; omega
theorem Free.high {q : Option Nat} {F : List Nat} {n : Nat} (hl : ∀ x ∈ q.toList, n ≤ x) (hF : ∀ x ∈ F, x < n) : Free q F := fun x hx hx2 => by
  have := hl x hx; have := hF x hx2; omega
theorem rowOf_free {σ σ' : St} {v : V} {q : Option Nat} {cs : List V} {F : List Nat} (h : rowOf σ.objs v = some (q, cs)) (hf : Free q F) (hk : KS F σ σ') : rowOf σ'.objs v = some (q, cs) := rowOf_frame h fun x hx o ho => hk.ko _ _ (hf x hx) ho
theorem bts_VT {k : Nat} {cs : List V} (h : VT Tryz.prog k 30 cs) : ∃ w bs, cs = [w] ∧ BtsV w bs := by
  obtain ⟨k', hc⟩ := VT_slice T22 h
  rcases hc with rfl | ⟨vs, len, rfl, h1, h2, h3⟩
  · exact ⟨.nils, [], rfl, .inl ⟨rfl, rfl⟩⟩
  · rw [C5] at h1 h3
    obtain ⟨l, rfl, hl, _⟩ := rows_of (f := fun b : UInt8 => [byteV b]) (R := fun _ => True) len vs h1 fun i hi => by
      obtain ⟨n, e, hw⟩ := VT_int T5 (h3 i hi)
      exact ⟨_, by rw [e, byteV_of hw], trivial⟩
    subst hl
    have e : l.flatMap (fun b : UInt8 => [byteV b]) = l.map byteV := by rw [List.map_eq_flatMap]
    refine ⟨_, l, rfl, .inr ⟨.ro, ?_⟩⟩
    rw [C5, e]
theorem bts_bulk {v : V} {bs : List UInt8} (h : BtsV v bs) : bs.length ≤ vbulk v := by
  rcases h with ⟨rfl, rfl⟩ | ⟨p, rfl⟩
  · simp
  · have := vbulks_len (bs.map byteV)
    simp only [vbulk, List.length_map] at this ⊢
    omega
theorem COi : Tryz.prog.cellsOf 3 = 1 := by kernel_rfl
theorem COs : Tryz.prog.cellsOf 9 = 1 := by kernel_rfl
theorem COb : Tryz.prog.cellsOf 30 = 1 := by kernel_rfl
abbrev BV := V × List UInt8
theorem SBs : sizeT Tryz.prog 30 = some 1 := pSB
def PtsV (w : V) (l : List BV) : Prop := RowV 1 w (l.map Prod.fst) l.length
theorem PtsV.len {v : V} {l : List BV} (h : PtsV v l) : vlen Tryz.prog 60 v = some (.int .i64 l.length) := RowV.len h TBB
theorem PtsV.addr {v : V} {l : List BV} (h : PtsV v l) {i : Nat} (hi : i < l.length) : vindexAddr Tryz.prog 60 v (.int .i64 i) = some (.eptr (l.map Prod.fst) i) := by
  have := RowV.addr h TBB SBs (by omega) (kk := .i64) (i := i) (by omega) (by omega)
  rwa [Int.toNat_natCast, Nat.mul_one] at this
theorem PtsV.load {l : List BV} {i : Nat} (hi : i < l.length) {objs : List Ob} : vload Tryz.prog objs 30 (.eptr (l.map Prod.fst) i) = some l[i].1 := by
  simp [vload, vcellsAt, vpart, pGB, hi]
theorem crcadd_does {σ : St} {v : V} {bs : List UInt8} (r : BitVec 32) (h : BtsV v bs) (hl : bs.length ≤ 1000000000) : Does Tryz.prog prims 96 [.int .u32 ((r.toNat : Nat) : Int), v] σ (.ret (uV (crcAdd r bs))) σ := by
  refine Does.prim (by kernel_rfl) ?_
  simp only [prims]
  rw [if_neg (by decide +kernel), if_neg (by decide +kernel), if_neg (by decide +kernel), if_pos trivial]
  simp only [crcP', bts_vbytesC h, ofInt_toNat]
  rw [if_pos ⟨trivial, hl⟩]
theorem crcsum_does {σ : St} {v : V} {bs : List UInt8} (h : BtsV v bs) (hl : bs.length ≤ 1000000000) : Does Tryz.prog prims 82 [v] σ (.ret (uV (crcSum bs))) σ := by
  apply k82_is.ret (by simp)
  simp only [k82_a, WK, vop, evAll, evOpt, evParts, vbuiltin, vun, vextract, Nat.reduceLT, Nat.reduceEqDiff, ↓reduceIte, reduceCtorEq, Nat.reduceAdd, Int.reduceLT, Int.reduceNeg, valloc_std, noSB, vhot, gD0]
  refine KD.ret (crcadd_does 0#32 h hl) ?_
  simp only [k82_a, WK, vop, evAll, evOpt, evParts, vbuiltin, vun, vextract, Nat.reduceLT, Nat.reduceEqDiff, ↓reduceIte, reduceCtorEq, Nat.reduceAdd, Int.reduceLT, Int.reduceNeg, valloc_std, noSB, vhot]
  rfl
def steps : Nat → BitVec 32 → BitVec 32
  | 0, r => r
  | k + 1, r => step1 (steps k r)
theorem steps8 (r : BitVec 32) : steps 8 r = nib (nib r) := by
  simp only [steps]
  rw [nib_steps, nib_steps]
theorem bit0 (q : BitVec 32) : (((q &&& 1#32).toNat : Nat) : Int) = 1 ↔ q.getLsbD 0 = true := by
  have h : (q &&& 1#32).toNat = q.toNat % 2 := by
    rw [BitVec.toNat_and]
    exact Nat.and_one_is_mod q.toNat
  have h2 : q.getLsbD 0 = decide (q.toNat % 2 = 1) := by
    rw [BitVec.getLsbD, Nat.testBit_zero]
  rw [h, h2]
  simp
  omega
theorem radd_does {σ : St} {v : V} {bs : List UInt8} (r : BitVec 32) (h : BtsV v bs) (hl : bs.length ≤ 1000000000) : Does Tryz.prog prims 99 [.int .u32 ((r.toNat : Nat) : Int), v] σ (.ret (uV (crcAdd r bs))) σ := by
  apply k99_is.ret (by simp)
  have hlen := h.len pTB
  simp only [k99_a, WK, vop, evAll, evOpt, evParts, vbuiltin, vun, vextract, Nat.reduceLT, Nat.reduceEqDiff, ↓reduceIte, reduceCtorEq, Nat.reduceAdd, Int.reduceLT, Int.reduceNeg, valloc_std, noSB, vhot, gD0, gD1, bit_notW]
  refine Ev.loopF (fun (i : Nat) e s => e 6 = .int .i64 (i : Nat) ∧ i ≤ bs.length ∧ e 5 = .int .u32 (((runC (~~~ r) (bs.take i)).toNat : Nat) : Int) ∧ s = σ) (fun i => bs.length - i) 0 ?_ ?_
  · exact ⟨by simp [upd_some], Nat.zero_le _, by simp [upd_some, runC], rfl⟩
  rintro i e s ⟨h6, hi, h5, rfl⟩ hf
  have g1 : e 1 = v := (hf 1 (by decide)).trans (by simp [upd_some])
  clear hf
  by_cases hlt : i < bs.length
  · have hlt' : (i : Int) < (bs.length : Nat) := by omega
    have hwi : IntKind.i64.wrap ((i : Int) + 1) = ((i + 1 : Nat) : Int) := by rw [wrap_i64 (by omega) (by omega)]; omega
    have hat : vindexAddr Tryz.prog 30 v (.int .i64 (i : Int)) = some (.eptr (bs.map byteV) i) := by
      have := h.addr pTB pS1 (k := .i64) (n := (i : Int)) (by omega) hlt'
      rwa [Int.toNat_natCast] at this
    have hld : ∀ objs, vload Tryz.prog objs 5 (.eptr (bs.map byteV) i) = some (.int .u8 ((bs[i].toNat : Nat) : Int)) := fun objs => by
      simp [vload, vcellsAt, vpart, pG5, hlt, byteV]
    have hcv : vconv Tryz.prog 5 108 (.int .u8 ((bs[i].toNat : Nat) : Int)) = some (.int .u32 (((BitVec.ofNat 32 bs[i].toNat).toNat : Nat) : Int)) := by
      simp only [vconv, pT5, pTU, byte32]
    simp only [k99_a, WK, vop, evAll, evOpt, evParts, vbuiltin, vun, vextract, Nat.reduceLT, Nat.reduceEqDiff, ↓reduceIte, reduceCtorEq, Nat.reduceAdd, Int.reduceLT, Int.reduceNeg, valloc_std, noSB, vhot, h6, g1, h5, hlen, hlt', decide_true, hat, hld, hcv, bit_xor]
    refine Ev.loopF (fun (j : Nat) e2 s2 => e2 7 = .int .i64 (j : Nat) ∧ j ≤ 8 ∧ e2 5 = .int .u32 (((steps j (runC (~~~ r) (bs.take i) ^^^ BitVec.ofNat 32 bs[i].toNat)).toNat : Nat) : Int) ∧ s2 = s) (fun j => 8 - j) 0 ?_ ?_
    · exact ⟨by simp [upd_some], Nat.zero_le _, by simp [upd_some, steps], rfl⟩
    rintro j e2 s2 ⟨m7, hj, m5, rfl⟩ hf2
    have m6 : e2 6 = .int .i64 (i : Nat) := (hf2 6 (by decide)).trans (by simp [upd_some, h6])
    clear hf2
    generalize hq : steps j (runC (~~~ r) (bs.take i) ^^^ BitVec.ofNat 32 bs[i].toNat) = q at m5
    by_cases hjt : j < 8
    · have hjt' : (j : Int) < 8 := by omega
      have hwj : IntKind.i64.wrap ((j : Int) + 1) = ((j + 1 : Nat) : Int) := by rw [wrap_i64 (by omega) (by omega)]; omega
      by_cases hb : q.getLsbD 0 = true
      · have hb' := (bit0 q).2 hb
        have hst : step1 q = (q >>> 1) ^^^ crcP := by unfold step1; rw [if_pos hb]
        simp only [k99_a, WK, vop, evAll, evOpt, evParts, vbuiltin, vun, vextract, Nat.reduceLT, Nat.reduceEqDiff, ↓reduceIte, reduceCtorEq, Nat.reduceAdd, Int.reduceLT, Int.reduceNeg, valloc_std, noSB, vhot, m7, m5, hjt', decide_true, and1, shr1, hb', eq_self, xorP, hwj]
        refine ⟨j + 1, ⟨by simp [upd_some], by omega, ?_⟩, by omega⟩
        simp only [upd_some, Nat.reduceEqDiff, ↓reduceIte, steps, hq, hst, and_true]
      · have hb' : ¬ (((q &&& 1#32).toNat : Nat) : Int) = 1 := fun h => hb ((bit0 q).1 h)
        have hst : step1 q = q >>> 1 := by unfold step1; rw [if_neg hb]; simp
        simp only [k99_a, WK, vop, evAll, evOpt, evParts, vbuiltin, vun, vextract, Nat.reduceLT, Nat.reduceEqDiff, ↓reduceIte, reduceCtorEq, Nat.reduceAdd, Int.reduceLT, Int.reduceNeg, valloc_std, noSB, vhot, m7, m5, hjt', decide_true, decide_false, and1, shr1, hb', hwj]
        refine ⟨j + 1, ⟨by simp [upd_some], by omega, ?_⟩, by omega⟩
        simp only [upd_some, Nat.reduceEqDiff, ↓reduceIte, steps, hq, hst, and_true]
    · have hjt' : ¬ (j : Int) < 8 := by omega
      have hj2 : j = 8 := by omega
      subst hj2
      rw [steps8] at hq
      simp only [k99_a, WK, vop, evAll, evOpt, evParts, vbuiltin, vun, vextract, Nat.reduceLT, Nat.reduceEqDiff, ↓reduceIte, reduceCtorEq, Nat.reduceAdd, Int.reduceLT, Int.reduceNeg, valloc_std, noSB, vhot, m7, m6, hjt', decide_false, hwi]
      refine ⟨i + 1, ⟨by simp [upd_some], by omega, ?_⟩, by omega⟩
      simp only [upd_some, Nat.reduceEqDiff, ↓reduceIte, m5, runC_succ hlt, byteC, hq, and_true]
  · have hlt' : ¬ (i : Int) < (bs.length : Nat) := by omega
    have hil : bs.take i = bs := List.take_of_length_le (by omega)
    rw [hil] at h5
    simp only [k99_a, WK, vop, evAll, evOpt, evParts, vbuiltin, vun, vextract, Nat.reduceLT, Nat.reduceEqDiff, ↓reduceIte, reduceCtorEq, Nat.reduceAdd, Int.reduceLT, Int.reduceNeg, valloc_std, noSB, vhot, h6, g1, h5, hlen, hlt', decide_false, bit_notW]
    rfl
theorem rsum_does {σ : St} {v : V} {bs : List UInt8} (h : BtsV v bs) (hl : bs.length ≤ 1000000000) : Does Tryz.prog prims 86 [v] σ (.ret (uV (crcSum bs))) σ := by
  apply k86_is.ret (by simp)
  simp only [k86_a, WK, vop, evAll, evOpt, evParts, vbuiltin, vun, vextract, Nat.reduceLT, Nat.reduceEqDiff, ↓reduceIte, reduceCtorEq, Nat.reduceAdd, Int.reduceLT, Int.reduceNeg, valloc_std, noSB, vhot, gD0]
  refine KD.ret (radd_does 0#32 h hl) ?_
  simp only [k86_a, WK, vop, evAll, evOpt, evParts, vbuiltin, vun, vextract, Nat.reduceLT, Nat.reduceEqDiff, ↓reduceIte, reduceCtorEq, Nat.reduceAdd, Int.reduceLT, Int.reduceNeg, valloc_std, noSB, vhot]
  rfl
theorem sbA {a b : List UInt8} (h : a.length + b.length ≤ 9223372036854775807) : strBin .add a b = some (.str (a ++ b)) := by simp only [strBin]; rw [if_pos h]
theorem vlenS (l : List UInt8) : vlen Tryz.prog 9 (.str l) = some (.int .i64 (l.length : Nat)) := by simp [vlen, T9]
theorem conv_str {v : V} {bs : List UInt8} (h : BtsV v bs) : vconv Tryz.prog 30 9 v = some (.str bs) := by
  have hu : isU8 Tryz.prog 5 = true := by kernel_rfl
  have hb : ∀ l : List UInt8, bytesOf' (l.map byteV) = some l := by
    intro l
    induction l with
    | nil => rfl
    | cons b l ih =>
      have : byteOf1 (byteV b) = some b := by simp [byteOf1, byteV]
      simp only [List.map_cons, bytesOf', this, ih]
  rcases h with ⟨rfl, rfl⟩ | ⟨p, rfl⟩
  · simp [vconv, T22, T9, hu]
  · simp [vconv, T22, T9, hu, hb]
theorem itoa_does {σ : St} {m : Nat} (h : m ≤ 999999999) : Does Tryz.prog prims 80 [.int .i64 (m : Nat)] σ (.ret (.str (digK (wid m) m))) σ := by
  refine Does.prim (by kernel_rfl) ?_
  simp only [prims]
  rw [if_neg (by decide +kernel), if_neg (by decide +kernel), if_neg (by decide +kernel), if_neg (by decide +kernel), if_pos trivial]
  simp only [itoaP, Int.toNat_natCast]
  rw [if_pos (by omega)]
theorem atoi_none {σ : St} {s : List UInt8} (hl : s.length ≤ 18) (h : Lib.atoi s = none) : Does Tryz.prog prims 83 [.str s] σ (.ret (.tuple [.int .i64 0, .iface 134 (.optr σ.objs.length 0)])) ⟨σ.objs ++ [.cells []], σ.toks⟩ := by
  refine Does.prim (by kernel_rfl) ?_
  simp only [prims]
  rw [if_neg (by decide +kernel), if_neg (by decide +kernel), if_neg (by decide +kernel), if_neg (by decide +kernel), if_neg (by decide +kernel), if_pos trivial]
  simp only [atoiP]
  rw [if_pos hl, h]
theorem atoi_some {σ : St} {s : List UInt8} {n : Int} (hl : s.length ≤ 18) (h : Lib.atoi s = some n) : Does Tryz.prog prims 83 [.str s] σ (.ret (.tuple [.int .i64 n, .nili])) σ := by
  refine Does.prim (by kernel_rfl) ?_
  simp only [prims]
  rw [if_neg (by decide +kernel), if_neg (by decide +kernel), if_neg (by decide +kernel), if_neg (by decide +kernel), if_neg (by decide +kernel), if_pos trivial]
  simp only [atoiP]
  rw [if_pos hl, h]
theorem sname_does {σ : St} (n : Int) : Does Tryz.prog prims 47 [.int .i64 n] σ (.ret (.str (nameP 115 0 n))) σ := by
  apply k47_is.ret (by simp)
  have oe : ofVal (Value.string { data := #[] }) = some (.str []) := rfl
  have o0 : ofVal (Value.string { data := #[48] }) = some (.str [48]) := rfl
  have oc : ofVal (Value.string { data := #[115] }) = some (.str [115]) := rfl
  by_cases h0 : n < 0
  · simp only [k47_a, WK, vop, evAll, evOpt, evParts, vbuiltin, vun, vextract, Nat.reduceLT, Nat.reduceEqDiff, ↓reduceIte, reduceCtorEq, Nat.reduceAdd, Int.reduceLT, Int.reduceNeg, valloc_std, noSB, vhot, gD0, h0, decide_true, oe]
    unfold nameP
    rw [if_pos (.inl h0)]
  by_cases h1 : 999999999 < n
  · simp only [k47_a, WK, vop, evAll, evOpt, evParts, vbuiltin, vun, vextract, Nat.reduceLT, Nat.reduceEqDiff, ↓reduceIte, reduceCtorEq, Nat.reduceAdd, Int.reduceLT, Int.reduceNeg, valloc_std, noSB, vhot, gD0, h0, h1, decide_true, decide_false, oe]
    unfold nameP
    rw [if_pos (.inr h1)]
  obtain ⟨m, rfl⟩ : ∃ m : Nat, n = (m : Int) := ⟨n.toNat, by omega⟩
  obtain ⟨w1, w2, w3, w4⟩ := wid_ok (n := m) (by omega)
  have hnm : nameP 115 0 (m : Int) = 115 :: digK 9 m := by
    unfold nameP
    rw [if_neg (by omega), Int.toNat_natCast]
  simp only [k47_a, WK, vop, evAll, evOpt, evParts, vbuiltin, vun, vextract, Nat.reduceLT, Nat.reduceEqDiff, ↓reduceIte, reduceCtorEq, Nat.reduceAdd, Int.reduceLT, Int.reduceNeg, valloc_std, noSB, vhot, gD0, h0, h1, decide_false, oe]
  refine KD.ret (itoa_does (by omega)) ?_
  simp only [k47_a, WK, vop, evAll, evOpt, evParts, vbuiltin, vun, vextract, Nat.reduceLT, Nat.reduceEqDiff, ↓reduceIte, reduceCtorEq, Nat.reduceAdd, Int.reduceLT, Int.reduceNeg, valloc_std, noSB, vhot]
  refine Ev.loopF (fun (k : Nat) e s => e 3 = .str (digK k m) ∧ m < 10 ^ k ∧ k ≤ 9 ∧ s = σ) (fun k => 9 - k) (wid m) ?_ ?_
  · exact ⟨by simp [upd_some], w3, w1, rfl⟩
  rintro k e s ⟨h3, hm, hk, rfl⟩ hf
  clear hf
  have hl := vlenS (digK k m)
  rw [digK_len] at hl
  by_cases hlt : k < 9
  · have hlt' : (k : Int) < 9 := by omega
    have ha : strBin .add [48] (digK k m) = some (.str (digK (k + 1) m)) := by
      rw [sbA (by rw [digK_len]; simp; omega), digK_zero hm]; rfl
    simp only [k47_a, WK, vop, evAll, evOpt, evParts, vbuiltin, vun, vextract, Nat.reduceLT, Nat.reduceEqDiff, ↓reduceIte, reduceCtorEq, Nat.reduceAdd, Int.reduceLT, Int.reduceNeg, valloc_std, noSB, vhot, h3, hl, hlt', decide_true, o0, ha]
    exact ⟨k + 1, ⟨by simp [upd_some], by rw [Nat.pow_succ]; omega, by omega⟩, by omega⟩
  · have hlt' : ¬ (k : Int) < 9 := by omega
    have hk9 : k = 9 := by omega
    subst hk9
    have ha : strBin .add [115] (digK 9 m) = some (.str (115 :: digK 9 m)) := by
      rw [sbA (by rw [digK_len]; simp)]; rfl
    simp only [k47_a, WK, vop, evAll, evOpt, evParts, vbuiltin, vun, vextract, Nat.reduceLT, Nat.reduceEqDiff, ↓reduceIte, reduceCtorEq, Nat.reduceAdd, Int.reduceLT, Int.reduceNeg, valloc_std, noSB, vhot, h3, hl, hlt', decide_false, oc, ha, hnm]
theorem rsname_does {σ : St} (n : Int) : Does Tryz.prog prims 54 [.int .i64 n] σ (.ret (.str (nameP 115 0 n))) σ := by
  apply k54_is.ret (by simp)
  have oe : ofVal (Value.string { data := #[] }) = some (.str []) := rfl
  have oc : ofVal (Value.string { data := #[115] }) = some (.str [115]) := rfl
  by_cases h0 : n < 0
  · simp only [k54_a, WK, vop, evAll, evOpt, evParts, vbuiltin, vun, vextract, Nat.reduceLT, Nat.reduceEqDiff, ↓reduceIte, reduceCtorEq, Nat.reduceAdd, Int.reduceLT, Int.reduceNeg, valloc_std, noSB, vhot, gD0, h0, decide_true, oe]
    unfold nameP
    rw [if_pos (.inl h0)]
  by_cases h1 : 999999999 < n
  · simp only [k54_a, WK, vop, evAll, evOpt, evParts, vbuiltin, vun, vextract, Nat.reduceLT, Nat.reduceEqDiff, ↓reduceIte, reduceCtorEq, Nat.reduceAdd, Int.reduceLT, Int.reduceNeg, valloc_std, noSB, vhot, gD0, h0, h1, decide_true, decide_false, oe]
    unfold nameP
    rw [if_pos (.inr h1)]
  obtain ⟨m, rfl⟩ : ∃ m : Nat, n = (m : Int) := ⟨n.toNat, by omega⟩
  have hnm : nameP 115 0 (m : Int) = 115 :: digK 9 m := by
    unfold nameP
    rw [if_neg (by omega), Int.toNat_natCast]
  simp only [k54_a, WK, vop, evAll, evOpt, evParts, vbuiltin, vun, vextract, Nat.reduceLT, Nat.reduceEqDiff, ↓reduceIte, reduceCtorEq, Nat.reduceAdd, Int.reduceLT, Int.reduceNeg, valloc_std, noSB, vhot, gD0, h0, h1, decide_false, oe]
  refine Ev.loopF (fun (i : Nat) e s => e 4 = .int .i64 (i : Nat) ∧ i ≤ 9 ∧ e 3 = .str (digK i m) ∧ e 0 = .int .i64 ((m / 10 ^ i : Nat) : Int) ∧ s = σ) (fun i => 9 - i) 0 ?_ ?_
  · exact ⟨by simp [upd_some], Nat.zero_le _, by simp [upd_some, digK], by simp [upd_some], rfl⟩
  rintro i e s ⟨h4, hi, h3, g0, rfl⟩ hf
  clear hf
  by_cases hlt : i < 9
  · have hlt' : (i : Int) < 9 := by omega
    have hwi : IntKind.i64.wrap ((i : Int) + 1) = ((i + 1 : Nat) : Int) := by rw [wrap_i64 (by omega) (by omega)]; omega
    have hq : m / 10 ^ i ≤ m := Nat.div_le_self _ _
    generalize hqe : m / 10 ^ i = q at g0 hq
    have hd : q % 10 < 10 := Nat.mod_lt _ (by decide)
    have htm : Int.tmod ((q : Nat) : Int) 10 = ((q % 10 : Nat) : Int) := by rw [Int.tmod_eq_emod_of_nonneg (by omega)]; omega
    have htd : Int.tdiv ((q : Nat) : Int) 10 = ((q / 10 : Nat) : Int) := by rw [Int.tdiv_eq_ediv_of_nonneg (by omega)]; omega
    have hw1 : IntKind.i64.wrap (48 + ((q % 10 : Nat) : Int)) = ((48 + q % 10 : Nat) : Int) := by rw [wrap_i64 (by omega) (by omega)]; omega
    have hw2 : IntKind.i64.wrap ((q / 10 : Nat) : Int) = ((q / 10 : Nat) : Int) := wrap_i64 (by omega) (by omega)
    have hcv : vconv Tryz.prog 3 5 (.int .i64 ((48 + q % 10 : Nat) : Int)) = some (.int .u8 ((48 + q % 10 : Nat) : Int)) := by
      simp only [vconv, T3, T5]
      rw [wrap_u8 (by omega) (by omega)]
    obtain ⟨hb1, hb2⟩ := buildByte (P := Tryz.prog) BT (n := 48 + q % 10) (by omega)
    have hcs := conv_str hb2
    have hp : m / 10 ^ (i + 1) = q / 10 := by rw [Nat.pow_succ, ← Nat.div_div_eq_div_mul, hqe]
    have ha : strBin .add [UInt8.ofNat (48 + q % 10)] (digK i m) = some (.str (digK (i + 1) m)) := by
      rw [sbA (by rw [digK_len]; simp; omega), digK_front, hqe]; rfl
    have z10 : ¬ (10 : Int) = 0 := by decide
    simp only [k54_a, WK, vop, evAll, evOpt, evParts, vbuiltin, vun, vextract, Nat.reduceLT, Nat.reduceEqDiff, ↓reduceIte, reduceCtorEq, Nat.reduceAdd, Int.reduceLT, Int.reduceNeg, valloc_std, noSB, vhot, h4, h3, g0, hlt', decide_true, z10, htm, hw1, hcv, hb1, hcs, ha, htd, hw2, hwi]
    exact ⟨i + 1, ⟨by simp [upd_some], by omega, by simp [upd_some], by simp [upd_some, hp]⟩, by omega⟩
  · have hlt' : ¬ (i : Int) < 9 := by omega
    have hi9 : i = 9 := by omega
    subst hi9
    have ha : strBin .add [115] (digK 9 m) = some (.str (115 :: digK 9 m)) := by
      rw [sbA (by rw [digK_len]; simp)]; rfl
    simp only [k54_a, WK, vop, evAll, evOpt, evParts, vbuiltin, vun, vextract, Nat.reduceLT, Nat.reduceEqDiff, ↓reduceIte, reduceCtorEq, Nat.reduceAdd, Int.reduceLT, Int.reduceNeg, valloc_std, noSB, vhot, h4, h3, hlt', decide_false, oc, ha, hnm]
def fourB (r : BitVec 32) : List UInt8 := [UInt8.ofNat r.toNat, UInt8.ofNat (r >>> 8).toNat, UInt8.ofNat (r >>> 16).toNat, UInt8.ofNat (r >>> 24).toNat]
def w4 (b : List UInt8) (i : Nat) : BitVec 32 := BitVec.ofNat 32 (b.getD i 0).toNat ||| (BitVec.ofNat 32 (b.getD (i + 1) 0).toNat <<< 8) ||| (BitVec.ofNat 32 (b.getD (i + 2) 0).toNat <<< 16) ||| (BitVec.ofNat 32 (b.getD (i + 3) 0).toNat <<< 24)
theorem shrN (r : BitVec 32) (k : Nat) : (r >>> k).toNat = r.toNat / 2 ^ k := by rw [BitVec.toNat_ushiftRight, Nat.shiftRight_eq_div_pow]
theorem fourB_len (r : BitVec 32) : (fourB r).length = 4 := rfl
theorem or_nat (x : BitVec 32) (b : UInt8) (k : Nat) (hx : x.toNat < 2 ^ k) (hk : k ≤ 24) : (x ||| (BitVec.ofNat 32 b.toNat <<< k)).toNat = x.toNat + b.toNat * 2 ^ k := by
  have hb := b.toNat_lt
  have h2 : 2 ^ k ≤ 2 ^ 24 := Nat.pow_le_pow_right (by decide) hk
  have h3 : b.toNat * 2 ^ k ≤ 255 * 2 ^ 24 := Nat.mul_le_mul (by omega) h2
  have e24 : (2 : Nat) ^ 24 = 16777216 := by decide
  have e1 : (BitVec.ofNat 32 b.toNat <<< k).toNat = b.toNat <<< k := by
    have m1 : b.toNat % 2 ^ 32 = b.toNat := Nat.mod_eq_of_lt (by omega)
    rw [BitVec.toNat_shiftLeft, BitVec.toNat_ofNat, m1, Nat.shiftLeft_eq, Nat.mod_eq_of_lt (by omega)]
  rw [BitVec.toNat_or, e1, Nat.or_comm, ← Nat.shiftLeft_add_eq_or_of_lt hx, Nat.shiftLeft_eq, Nat.add_comm]
theorem w4_nat (b : List UInt8) (i : Nat) : (w4 b i).toNat = (b.getD i 0).toNat + (b.getD (i + 1) 0).toNat * 256 + (b.getD (i + 2) 0).toNat * 65536 + (b.getD (i + 3) 0).toNat * 16777216 := by
  have h0 := (b.getD i 0).toNat_lt
  have h1 := (b.getD (i + 1) 0).toNat_lt
  have h2 := (b.getD (i + 2) 0).toNat_lt
  have h3 := (b.getD (i + 3) 0).toNat_lt
  have e0 : (BitVec.ofNat 32 (b.getD i 0).toNat).toNat = (b.getD i 0).toNat := by rw [BitVec.toNat_ofNat, Nat.mod_eq_of_lt (by omega)]
  unfold w4
  have a1 := or_nat (BitVec.ofNat 32 (b.getD i 0).toNat) (b.getD (i + 1) 0) 8 (by rw [e0]; omega) (by omega)
  have a2 := or_nat (BitVec.ofNat 32 (b.getD i 0).toNat ||| (BitVec.ofNat 32 (b.getD (i + 1) 0).toNat <<< 8)) (b.getD (i + 2) 0) 16 (by rw [a1, e0]; omega) (by omega)
  have a3 := or_nat (BitVec.ofNat 32 (b.getD i 0).toNat ||| (BitVec.ofNat 32 (b.getD (i + 1) 0).toNat <<< 8) ||| (BitVec.ofNat 32 (b.getD (i + 2) 0).toNat <<< 16)) (b.getD (i + 3) 0) 24 (by rw [a2, a1, e0]; omega) (by omega)
  rw [a3, a2, a1, e0]
theorem fourB_w4 (b0 b1 b2 b3 : UInt8) (r : BitVec 32) (h : r.toNat = b0.toNat + b1.toNat * 256 + b2.toNat * 65536 + b3.toNat * 16777216) : fourB r = [b0, b1, b2, b3] := by
  have h0 := b0.toNat_lt
  have h1 := b1.toNat_lt
  have h2 := b2.toNat_lt
  have h3 := b3.toNat_lt
  unfold fourB
  rw [shrN, shrN, shrN, h]
  congr 1
  · apply UInt8.toNat_inj.1; rw [UInt8.toNat_ofNat']; omega
  congr 1
  · apply UInt8.toNat_inj.1; rw [UInt8.toNat_ofNat']; omega
  congr 1
  · apply UInt8.toNat_inj.1; rw [UInt8.toNat_ofNat']; omega
  congr 1
  · apply UInt8.toNat_inj.1; rw [UInt8.toNat_ofNat']; omega
theorem four_at {b : List UInt8} {i : Nat} (h : i + 4 ≤ b.length) : fourB (w4 b i) = (b.drop i).take 4 := by
  rw [fourB_w4 _ _ _ _ _ (w4_nat b i)]
  apply List.ext_getElem
  · simp; omega
  · intro j h1 h2
    simp at h1
    rw [List.getElem_take, List.getElem_drop]
    match j, h1 with
    | 0, _ => simp [gA6, List.getElem?_eq_getElem (show i < b.length by omega)]
    | 1, _ => simp [gA6, List.getElem?_eq_getElem (show i + 1 < b.length by omega)]
    | 2, _ => simp [gA6, List.getElem?_eq_getElem (show i + 2 < b.length by omega)]
    | 3, _ => simp [gA6, List.getElem?_eq_getElem (show i + 3 < b.length by omega)]
theorem w4_of {b : List UInt8} {i : Nat} {r : BitVec 32} (h : (b.drop i).take 4 = fourB r) : w4 b i = r := by
  have hl : i + 4 ≤ b.length := by
    have := congrArg List.length h
    rw [List.length_take, List.length_drop, fourB_len] at this
    omega
  have hg : ∀ j (hj : j < 4), b.getD (i + j) 0 = (fourB r)[j]'(by rw [fourB_len]; exact hj) := fun j hj => by
    have : (fourB r)[j]? = ((b.drop i).take 4)[j]? := by rw [h]
    rw [List.getElem?_take_of_lt hj, List.getElem?_drop, List.getElem?_eq_getElem (by rw [fourB_len]; exact hj)] at this
    rw [gA6, ← this]
    rfl
  apply BitVec.eq_of_toNat_eq
  rw [w4_nat]
  have g0 := hg 0 (by omega)
  have g1 := hg 1 (by omega)
  have g2 := hg 2 (by omega)
  have g3 := hg 3 (by omega)
  rw [Nat.add_zero] at g0
  rw [g0, g1, g2, g3]
  have hr := r.isLt
  simp only [fourB, List.getElem_cons_zero, List.getElem_cons_succ, UInt8.toNat_ofNat', shrN]
  omega
theorem fourB_inj {r s : BitVec 32} (h : fourB r = fourB s) : r = s := by
  have h1 : w4 (fourB r) 0 = r := w4_of (by rfl)
  have h2 : w4 (fourB s) 0 = s := w4_of (by rfl)
  rw [← h1, ← h2, h]
def headS (n : Int) (body : List UInt8) : List UInt8 := fourB (BitVec.ofInt 32 n) ++ fourB (BitVec.ofNat 32 body.length)
def encS (n : Int) (body : List UInt8) : List UInt8 := headS n body ++ (fourB (crcSum (headS n body ++ body)) ++ body)
theorem headS_len (n : Int) (body : List UInt8) : (headS n body).length = 8 := rfl
theorem encS_len (n : Int) (body : List UInt8) : (encS n body).length = 12 + body.length := by
  unfold encS
  rw [List.length_append, List.length_append, headS_len, fourB_len]
  omega
def decS (n : Int) (b : List UInt8) : List UInt8 × Nat :=
  if b.length < 12 then ([], 10) else
  if b.length - 12 < (w4 b 4).toNat then ([], 10) else
  if (w4 b 4).toNat < b.length - 12 ∨ n < 0 ∨ 999999999 < n ∨ w4 b 0 ≠ BitVec.ofInt 32 n then ([], 11) else
  if w4 b 8 ≠ crcSum (b.take 8 ++ b.drop 12) then ([], 12) else (b.drop 12, 0)
theorem wrap_bv (n : Int) : IntKind.u32.wrap n = (((BitVec.ofInt 32 n).toNat : Nat) : Int) := by
  rw [BitVec.toNat_ofInt]
  unfold IntKind.wrap
  simp [IntKind.bits, IntKind.signed, IntKind.max, IntKind.min]
  omega
theorem conv32 (n : Int) : vconv Tryz.prog 3 108 (.int .i64 n) = some (.int .u32 (((BitVec.ofInt 32 n).toNat : Nat) : Int)) := by
  simp only [vconv, T3, pTU, wrap_bv]
theorem conv8 (r : BitVec 32) : vconv Tryz.prog 108 5 (.int .u32 ((r.toNat : Nat) : Int)) = some (byteV (UInt8.ofNat r.toNat)) := by
  have h : IntKind.u8.wrap ((r.toNat : Nat) : Int) = (((UInt8.ofNat r.toNat).toNat : Nat) : Int) := by
    rw [UInt8.toNat_ofNat']
    unfold IntKind.wrap
    simp [IntKind.bits, IntKind.signed, IntKind.max, IntKind.min]
  simp only [vconv, pTU, T5, h, byteV]
theorem shr8 (r : BitVec 32) : (((r.toNat : Nat) : Int) / (2 : Int) ^ (min (8 : Int).toNat IntKind.u32.bits)) = (((r >>> 8).toNat : Nat) : Int) := by
  have e : (2 : Int) ^ (min (8 : Int).toNat IntKind.u32.bits) = ((256 : Nat) : Int) := by decide
  rw [e, shrN]; omega
theorem shr16 (r : BitVec 32) : (((r.toNat : Nat) : Int) / (2 : Int) ^ (min (16 : Int).toNat IntKind.u32.bits)) = (((r >>> 16).toNat : Nat) : Int) := by
  have e : (2 : Int) ^ (min (16 : Int).toNat IntKind.u32.bits) = ((65536 : Nat) : Int) := by decide
  rw [e, shrN]; omega
theorem shr24 (r : BitVec 32) : (((r.toNat : Nat) : Int) / (2 : Int) ^ (min (24 : Int).toNat IntKind.u32.bits)) = (((r >>> 24).toNat : Nat) : Int) := by
  have e : (2 : Int) ^ (min (24 : Int).toNat IntKind.u32.bits) = ((16777216 : Nat) : Int) := by decide
  rw [e, shrN]; omega
theorem build4 (a b c d : UInt8) : vbuildSlice Tryz.prog 30 4 [(0, byteV a), (1, byteV b), (2, byteV c), (3, byteV d)] = some (.slice .exact 1 ([a, b, c, d].map byteV) 4) := by
  have e : List.range 4 = [0, 1, 2, 3] := by decide
  simp [vbuildSlice, T22, S5, BT.z, vcells, vfill, zeroCellsV, setAll, byteV, e]
theorem four_bts (r : BitVec 32) : BtsV (.slice .exact 1 ((fourB r).map byteV) 4) (fourB r) := .inr ⟨.exact, rfl⟩
theorem four_own {σ : St} {m : Nat} (r : BitVec 32) : OwnV 5 m σ (.slice .exact 1 ((fourB r).map byteV) 4) (fourB r) := .inr ⟨.exact, rfl, .inl rfl⟩
theorem rfour_does {σ : St} (r : BitVec 32) : Does Tryz.prog prims 85 [.int .u32 ((r.toNat : Nat) : Int)] σ (.ret (.slice .exact 1 ((fourB r).map byteV) 4)) σ := by
  apply k85_is.ret (by simp)
  simp only [k85_a, WK, vop, evAll, evOpt, evParts, vbuiltin, vun, vextract, Nat.reduceLT, Nat.reduceEqDiff, ↓reduceIte, reduceCtorEq, Nat.reduceAdd, Int.reduceLT, Int.reduceNeg, valloc_std, noSB, vhot, gD0, nilEP, conv8, shr8, shr16, shr24, build4]
  rfl
theorem TA2 : Tryz.prog.underlying 109 = some (.array 2 108) := by kernel_rfl
theorem bldA2 (a b : Int) : vbuild Tryz.prog 109 [(0, .int .u32 a), (1, .int .u32 b)] = some (.agg [.int .u32 a, .int .u32 b]) := by kernel_rfl
theorem idxA2 (a b : BitVec 32) : ∀ i : Nat, i < 2 → vindex Tryz.prog 109 (.agg [.int .u32 ((a.toNat : Nat) : Int), .int .u32 ((b.toNat : Nat) : Int)]) (.int .i64 (i : Int)) = some (.int .u32 (((if i = 0 then a else b).toNat : Nat) : Int))
  | 0, _ => by simp [vindex, TA2, pSU, vpart, pGU]
  | 1, _ => by simp [vindex, TA2, pSU, vpart, pGU]
theorem Keep.toks (σ : St) : Keep σ σ := Keep.refl σ
theorem encode_sees {σ : St} {n : Int} {x : V} {body : List UInt8} (hb : BtsV x body) (hl : body.length ≤ 100000000) :
    ∃ q σ', Does Tryz.prog prims 51 [.int .i64 n, x] σ q σ' ∧ ∃ v, q = .ret v ∧ BtsV v (encS n body) ∧ Keep σ σ' := by
  apply k51_is.does (by simp)
  have hlen := hb.len T22
  obtain ⟨A, hA⟩ : ∃ A, A = BitVec.ofInt 32 n := ⟨_, rfl⟩
  obtain ⟨B, hB⟩ : ∃ B, B = BitVec.ofNat 32 body.length := ⟨_, rfl⟩
  have hB' : BitVec.ofInt 32 ((body.length : Nat) : Int) = B := by rw [hB]; simp
  have hhead : headS n body = fourB A ++ fourB B := by rw [hA, hB]; rfl
  have c1 := conv32 n
  have c2 := conv32 ((body.length : Nat) : Int)
  rw [← hA] at c1
  rw [hB'] at c2
  simp only [k51_a, WK, vop, evAll, evOpt, evParts, vbuiltin, vun, vextract, Nat.reduceLT, Nat.reduceEqDiff, ↓reduceIte, reduceCtorEq, Nat.reduceAdd, Int.reduceLT, Int.reduceNeg, valloc_std, noSB, vhot, gD0, gD1, nilEP, c1, hlen, c2, bldA2]
  refine Ev.loopF (fun (i : Nat) e s => e 15 = .int .i64 (i : Nat) ∧ i ≤ 2 ∧ OwnV 5 σ.toks.length s (e 5) ((fourB A ++ fourB B).take (4 * i)) ∧ Keep σ s) (fun i => 2 - i) 0 ?_ ?_
  · exact ⟨by simp [upd_some], Nat.zero_le _, by simp [upd_some, OwnV], Keep.refl _⟩
  rintro i e s ⟨h15, hi, h5, hk⟩ hf
  have g1 : e 1 = x := (hf 1 (by decide)).trans (by simp [upd_some])
  have g14 : e 14 = .agg [.int .u32 ((A.toNat : Nat) : Int), .int .u32 ((B.toNat : Nat) : Int)] := (hf 14 (by decide)).trans (by simp [upd_some])
  clear hf
  by_cases hlt : i < 2
  · have hlt' : (i : Int) < 2 := by omega
    have hwi : IntKind.i64.wrap ((i : Int) + 1) = ((i + 1 : Nat) : Int) := by rw [wrap_i64 (by omega) (by omega)]; omega
    have hix := idxA2 A B i hlt
    obtain ⟨R, hR⟩ : ∃ R, R = if i = 0 then A else B := ⟨_, rfl⟩
    rw [← hR] at hix
    obtain ⟨v', s', a1, a2, a3, a4⟩ := h5.append' BT (σ0 := σ) rfl hk T22 (four_bts R) (by rw [List.length_take, fourB_len]; omega)
    have htk : (fourB A ++ fourB B).take (4 * i) ++ fourB R = (fourB A ++ fourB B).take (4 * (i + 1)) := by
      match i, hlt with
      | 0, _ => rw [hR]; rfl
      | 1, _ => rw [hR]; rfl
    rw [htk] at a2
    have hbl := build4 (UInt8.ofNat R.toNat) (UInt8.ofNat (R >>> 8).toNat) (UInt8.ofNat (R >>> 16).toNat) (UInt8.ofNat (R >>> 24).toNat)
    rw [show [UInt8.ofNat R.toNat, UInt8.ofNat (R >>> 8).toNat, UInt8.ofNat (R >>> 16).toNat, UInt8.ofNat (R >>> 24).toNat] = fourB R from rfl] at hbl
    simp only [k51_a, WK, vop, evAll, evOpt, evParts, vbuiltin, vun, vextract, Nat.reduceLT, Nat.reduceEqDiff, ↓reduceIte, reduceCtorEq, Nat.reduceAdd, Int.reduceLT, Int.reduceNeg, valloc_std, noSB, vhot, h15, hlt', decide_true, g14, hix, conv8, shr8, shr16, shr24, hbl, a1, hwi]
    exact ⟨i + 1, ⟨by simp [upd_some], by omega, by simpa [upd_some] using a2, a3⟩, by omega⟩
  · have hlt' : ¬ (i : Int) < 2 := by omega
    have hi2 : i = 2 := by omega
    subst hi2
    have ht8 : (fourB A ++ fourB B).take (4 * 2) = fourB A ++ fourB B := List.take_of_length_le (by simp [fourB_len])
    rw [ht8, ← hhead] at h5
    have h8l := h5.bts.len T22
    obtain ⟨vc, hc, oc⟩ := h5.bts.clip (t := 30) T22 S5 (k := .i64) (k' := .i64) (n := s.toks.length) (σ := s)
    obtain ⟨v6, s6, b1, b2, b3, b4⟩ := OwnV.append' (P := Tryz.prog) (t := 30) (t2 := 30) BT oc (σ0 := s) rfl (Keep.refl s) T22 hb (by rw [headS_len]; omega)
    have h56 := h5.keep b3
    have hk6 := hk.trans b3
    have hs := crcsum_does (σ := s6) b2.bts (by rw [List.length_append, headS_len]; omega)
    obtain ⟨C, hC⟩ : ∃ C, C = crcSum (headS n body ++ body) := ⟨_, rfl⟩
    rw [← hC] at hs
    obtain ⟨v7, s7, d1, d2, d3, d4⟩ := h56.append' BT (σ0 := σ) rfl hk6 T22 (four_bts C) (by rw [headS_len, fourB_len]; omega)
    obtain ⟨v8, s8, e1, e2, e3, e4⟩ := d2.append' BT (σ0 := σ) rfl d3 T22 hb (by rw [List.length_append, headS_len, fourB_len]; omega)
    have hbl := build4 (UInt8.ofNat C.toNat) (UInt8.ofNat (C >>> 8).toNat) (UInt8.ofNat (C >>> 16).toNat) (UInt8.ofNat (C >>> 24).toNat)
    rw [show [UInt8.ofNat C.toNat, UInt8.ofNat (C >>> 8).toNat, UInt8.ofNat (C >>> 16).toNat, UInt8.ofNat (C >>> 24).toNat] = fourB C from rfl] at hbl
    simp only [k51_a, WK, vop, evAll, evOpt, evParts, vbuiltin, vun, vextract, Nat.reduceLT, Nat.reduceEqDiff, ↓reduceIte, reduceCtorEq, Nat.reduceAdd, Int.reduceLT, Int.reduceNeg, valloc_std, noSB, vhot, h15, hlt', decide_false, g1, h8l, hc, b1, T22]
    refine KD.ret hs ?_
    simp only [k51_a, WK, vop, evAll, evOpt, evParts, vbuiltin, vun, vextract, Nat.reduceLT, Nat.reduceEqDiff, ↓reduceIte, reduceCtorEq, Nat.reduceAdd, Int.reduceLT, Int.reduceNeg, valloc_std, noSB, vhot, uV, g1, conv8, shr8, shr16, shr24, hbl, d1, e1]
    refine ⟨v8, rfl, ?_, e3⟩
    have : encS n body = headS n body ++ fourB C ++ body := by rw [hC, List.append_assoc]; rfl
    rw [this]
    exact e2.bts
theorem rencode_sees {σ : St} {n : Int} {x : V} {body : List UInt8} (hb : BtsV x body) (hl : body.length ≤ 100000000) :
    ∃ q σ', Does Tryz.prog prims 57 [.int .i64 n, x] σ q σ' ∧ ∃ v, q = .ret v ∧ BtsV v (encS n body) ∧ Keep σ σ' := by
  apply k57_is.does (by simp)
  have hlen := hb.len T22
  obtain ⟨A, hA⟩ : ∃ A, A = BitVec.ofInt 32 n := ⟨_, rfl⟩
  obtain ⟨B, hB⟩ : ∃ B, B = BitVec.ofNat 32 body.length := ⟨_, rfl⟩
  have hB' : BitVec.ofInt 32 ((body.length : Nat) : Int) = B := by rw [hB]; simp
  have hhead : headS n body = fourB A ++ fourB B := by rw [hA, hB]; rfl
  have c1 := conv32 n
  have c2 := conv32 ((body.length : Nat) : Int)
  rw [← hA] at c1
  rw [hB'] at c2
  obtain ⟨v1, s1, a1, a2, a3, a4⟩ := OwnV.append' (P := Tryz.prog) (t := 30) (t2 := 30) BT (four_own (σ := σ) (m := σ.toks.length) A) (σ0 := σ) rfl (Keep.refl σ) T22 (four_bts B) (by rw [fourB_len, fourB_len]; omega)
  rw [← hhead] at a2
  obtain ⟨v2, s2, b1, b2, b3, b4⟩ := OwnV.append' (P := Tryz.prog) (t := 30) (t2 := 30) BT (σ := s1) (show OwnV 5 s1.toks.length s1 (.slice .exact 1 [] 0) [] from .inr ⟨.exact, rfl, .inl rfl⟩) (σ0 := s1) rfl (Keep.refl s1) T22 a2.bts (by rw [headS_len]; simp)
  rw [List.nil_append] at b2
  obtain ⟨v3, s3, d1, d2, d3, d4⟩ := b2.append' BT (σ0 := s1) rfl b3 T22 hb (by rw [headS_len]; omega)
  have a2' := a2.keep d3
  have k3 := a3.trans d3
  have hs := rsum_does (σ := s3) d2.bts (by rw [List.length_append, headS_len]; omega)
  obtain ⟨C, hC⟩ : ∃ C, C = crcSum (headS n body ++ body) := ⟨_, rfl⟩
  rw [← hC] at hs
  obtain ⟨v4, s4, e1, e2, e3, e4⟩ := a2'.append' BT (σ0 := σ) rfl k3 T22 (four_bts C) (by rw [headS_len, fourB_len]; omega)
  obtain ⟨v5, s5, f1, f2, f3, f4⟩ := e2.append' BT (σ0 := σ) rfl e3 T22 hb (by rw [List.length_append, headS_len, fourB_len]; omega)
  simp only [k57_a, WK, vop, evAll, evOpt, evParts, vbuiltin, vun, vextract, Nat.reduceLT, Nat.reduceEqDiff, ↓reduceIte, reduceCtorEq, Nat.reduceAdd, Int.reduceLT, Int.reduceNeg, valloc_std, noSB, vhot, gD0, gD1, nilEP, c1]
  refine KD.ret (rfour_does A) ?_
  simp only [k57_a, WK, vop, evAll, evOpt, evParts, vbuiltin, vun, vextract, Nat.reduceLT, Nat.reduceEqDiff, ↓reduceIte, reduceCtorEq, Nat.reduceAdd, Int.reduceLT, Int.reduceNeg, valloc_std, noSB, vhot, gD0, gD1, hlen, c2]
  refine KD.ret (rfour_does B) ?_
  simp only [k57_a, WK, vop, evAll, evOpt, evParts, vbuiltin, vun, vextract, Nat.reduceLT, Nat.reduceEqDiff, ↓reduceIte, reduceCtorEq, Nat.reduceAdd, Int.reduceLT, Int.reduceNeg, valloc_std, noSB, vhot, gD0, gD1, a1, build0 BT, b1, d1]
  refine KD.ret hs ?_
  simp only [k57_a, WK, vop, evAll, evOpt, evParts, vbuiltin, vun, vextract, Nat.reduceLT, Nat.reduceEqDiff, ↓reduceIte, reduceCtorEq, Nat.reduceAdd, Int.reduceLT, Int.reduceNeg, valloc_std, noSB, vhot, gD0, gD1, uV]
  refine KD.ret (rfour_does C) ?_
  simp only [k57_a, WK, vop, evAll, evOpt, evParts, vbuiltin, vun, vextract, Nat.reduceLT, Nat.reduceEqDiff, ↓reduceIte, reduceCtorEq, Nat.reduceAdd, Int.reduceLT, Int.reduceNeg, valloc_std, noSB, vhot, gD0, gD1, e1, f1]
  refine ⟨v5, rfl, ?_, f3⟩
  have : encS n body = headS n body ++ fourB C ++ body := by rw [hC, List.append_assoc]; rfl
  rw [this]
  exact f2.bts
theorem shl_nat (r : BitVec 32) (k : Nat) (hk : k ≤ 24) (hr : r.toNat < 256) : IntKind.u32.wrap (((r.toNat : Nat) : Int) * (2 : Int) ^ k) = (((r <<< k).toNat : Nat) : Int) := by
  have h2 : 2 ^ k ≤ 2 ^ 24 := Nat.pow_le_pow_right (by decide) hk
  have h3 : r.toNat * 2 ^ k ≤ 255 * 2 ^ 24 := Nat.mul_le_mul (by omega) h2
  have e24 : (2 : Nat) ^ 24 = 16777216 := by decide
  have e : (((r.toNat : Nat) : Int) * (2 : Int) ^ k) = ((r.toNat * 2 ^ k : Nat) : Int) := by
    rw [Int.natCast_mul, Int.natCast_pow]; rfl
  rw [e, wrap_u32 (by omega) (by omega), BitVec.toNat_shiftLeft, Nat.shiftLeft_eq, Nat.mod_eq_of_lt (by omega)]
theorem byte_lt (b : UInt8) : (BitVec.ofNat 32 b.toNat).toNat < 256 := by
  have := b.toNat_lt
  rw [BitVec.toNat_ofNat, Nat.mod_eq_of_lt (by omega)]; omega
theorem shl8 (b : UInt8) : IntKind.u32.wrap ((((BitVec.ofNat 32 b.toNat).toNat : Nat) : Int) * (2 : Int) ^ (min (8 : Int).toNat IntKind.u32.bits)) = (((BitVec.ofNat 32 b.toNat <<< 8).toNat : Nat) : Int) := shl_nat _ 8 (by omega) (byte_lt b)
theorem shl16 (b : UInt8) : IntKind.u32.wrap ((((BitVec.ofNat 32 b.toNat).toNat : Nat) : Int) * (2 : Int) ^ (min (16 : Int).toNat IntKind.u32.bits)) = (((BitVec.ofNat 32 b.toNat <<< 16).toNat : Nat) : Int) := shl_nat _ 16 (by omega) (byte_lt b)
theorem shl24 (b : UInt8) : IntKind.u32.wrap ((((BitVec.ofNat 32 b.toNat).toNat : Nat) : Int) * (2 : Int) ^ (min (24 : Int).toNat IntKind.u32.bits)) = (((BitVec.ofNat 32 b.toNat <<< 24).toNat : Nat) : Int) := shl_nat _ 24 (by omega) (byte_lt b)
theorem conv832 (b : UInt8) : vconv Tryz.prog 5 108 (.int .u8 ((b.toNat : Nat) : Int)) = some (.int .u32 (((BitVec.ofNat 32 b.toNat).toNat : Nat) : Int)) := by
  simp only [vconv, pT5, pTU, byte32]
theorem BtsV.at' {v : V} {bs : List UInt8} (h : BtsV v bs) {i : Nat} (hi : i < bs.length) : vindexAddr Tryz.prog 30 v (.int .i64 (i : Int)) = some (.eptr (bs.map byteV) i) := by
  have := h.addr T22 S5 (k := .i64) (n := (i : Int)) (by omega) (by omega)
  rwa [Int.toNat_natCast] at this
theorem byte_ld {bs : List UInt8} {i : Nat} (hi : i < bs.length) {objs : List Ob} : vload Tryz.prog objs 5 (.eptr (bs.map byteV) i) = some (.int .u8 ((bs.getD i 0).toNat : Nat)) := by
  rw [gA6, List.getElem?_eq_getElem hi]
  exact BtsV.load (P := Tryz.prog) G5 hi
theorem word_does {σ : St} {r : Nat} {x : V} {bs : List UInt8} (ho : σ.objs[r]? = some (.cells [x])) (hb : BtsV x bs) {k : Nat} (hk : k + 4 ≤ bs.length) (hl : bs.length ≤ 1000000000) : Does Tryz.prog prims 87 [.int .i64 (k : Nat), .optr r 0] σ (.ret (uV (w4 bs k))) σ := by
  apply k87_is.ret (by simp)
  have lx : vload Tryz.prog σ.objs 30 (.optr r 0) = some x := by rw [vload_obj ho pGB]; rfl
  have w1 : IntKind.i64.wrap ((k : Int) + 1) = ((k + 1 : Nat) : Int) := by rw [wrap_i64 (by omega) (by omega)]; omega
  have w2 : IntKind.i64.wrap ((k : Int) + 2) = ((k + 2 : Nat) : Int) := by rw [wrap_i64 (by omega) (by omega)]; omega
  have w3 : IntKind.i64.wrap ((k : Int) + 3) = ((k + 3 : Nat) : Int) := by rw [wrap_i64 (by omega) (by omega)]; omega
  simp only [k87_a, WK, vop, evAll, evOpt, evParts, vbuiltin, vun, vextract, Nat.reduceLT, Nat.reduceEqDiff, ↓reduceIte, reduceCtorEq, Nat.reduceAdd, Int.reduceLT, Int.reduceNeg, valloc_std, noSB, vhot, gD0, gD1, lx, w1, w2, w3, hb.at' (show k < bs.length by omega), hb.at' (show k + 1 < bs.length by omega), hb.at' (show k + 2 < bs.length by omega), hb.at' (show k + 3 < bs.length by omega),
    byte_ld (show k < bs.length by omega), byte_ld (show k + 1 < bs.length by omega), byte_ld (show k + 2 < bs.length by omega), byte_ld (show k + 3 < bs.length by omega), conv832, shl8, shl16, shl24, bit_or]
  rfl
theorem conv64a (r : BitVec 32) : vconv Tryz.prog 108 119 (.int .u32 ((r.toNat : Nat) : Int)) = some (.int .u64 ((r.toNat : Nat) : Int)) := by
  have h : IntKind.u64.wrap ((r.toNat : Nat) : Int) = ((r.toNat : Nat) : Int) := by
    have := r.isLt
    unfold IntKind.wrap
    simp [IntKind.bits, IntKind.signed, IntKind.max, IntKind.min]
    omega
  have hu : Tryz.prog.underlying 119 = some (.int .u64) := by kernel_rfl
  simp only [vconv, pTU, hu, h]
theorem conv64b (n : Nat) (hn : n ≤ 1000000000) : vconv Tryz.prog 3 119 (.int .i64 ((n : Nat) : Int)) = some (.int .u64 ((n : Nat) : Int)) := by
  have h : IntKind.u64.wrap ((n : Nat) : Int) = ((n : Nat) : Int) := by
    unfold IntKind.wrap
    simp [IntKind.bits, IntKind.signed, IntKind.max, IntKind.min]
    omega
  have hu : Tryz.prog.underlying 119 = some (.int .u64) := by kernel_rfl
  simp only [vconv, T3, hu, h]
theorem toNat_eq (a b : BitVec 32) : (((a.toNat : Nat) : Int) = ((b.toNat : Nat) : Int)) ↔ a = b := ⟨fun h => BitVec.eq_of_toNat_eq (by omega), fun h => by rw [h]⟩
theorem BtsV.clipN {v : V} {bs : List UInt8} (h : BtsV v bs) {n k : Nat} (hk : k ≤ bs.length) (h0 : 0 < k) {σ : St} : ∃ v', vslice Tryz.prog 30 v none (some (.int .i64 (k : Int))) (some (.int .i64 (k : Int))) = some v' ∧ OwnV 5 n σ v' (bs.take k) := by
  rcases h with ⟨rfl, rfl⟩ | ⟨p, rfl⟩
  · simp at hk; omega
  · refine ⟨.slice .exact 1 ((bs.take k).map byteV) (bs.take k).length, ?_, .inr ⟨.exact, rfl, .inl rfl⟩⟩
    have hb : vbounds bs.length none (some (.int .i64 (k : Int))) (some (.int .i64 (k : Int))) = some (0, k, some k) := by
      have : (k : Int) ≤ bs.length := by omega
      simp [vbounds, vb, this]
    simp only [vslice, T22, S5, hb, if_true, Nat.zero_mul, List.drop_zero, Nat.sub_zero, Nat.mul_one]
    rw [List.length_take, Nat.min_eq_left hk, List.map_take]
theorem decode_sees {σ : St} {n : Int} {x : V} {bs : List UInt8} (hb : BtsV x bs) (hl : bs.length ≤ 100000000) :
    ∃ q σ', Does Tryz.prog prims 61 [.int .i64 n, x] σ q σ' ∧ ∃ v, q = .ret (.tuple [v, .int .i64 ((decS n bs).2 : Nat)]) ∧ OwnV 5 σ.toks.length σ' v (decS n bs).1 ∧ KS [] σ σ' := by
  apply k61_is.does (by simp)
  obtain ⟨s1, hs1⟩ : ∃ s1 : St, s1 = ⟨σ.objs ++ [.cells [x]], σ.toks⟩ := ⟨_, rfl⟩
  have hcx : vcells x = [x] := vcells_one hb.one
  have K1 : KS [] σ s1 := by rw [hs1]; exact KS.push _ _ _
  have ob : s1.objs[σ.objs.length]? = some (.cells [x]) := by rw [hs1]; exact push_new _ _
  have lx : ∀ {s : St}, KS [] s1 s → vload Tryz.prog s.objs 30 (.optr σ.objs.length 0) = some x := fun {s} hk => by rw [vload_obj (hk.ko _ _ (by simp) ob) pGB]; rfl
  have lx1 := lx (KS.refl [] s1)
  have hlen := hb.len T22
  have nilO : ∀ s : St, OwnV 5 σ.toks.length s .nils [] := fun s => .inl ⟨rfl, rfl⟩
  by_cases h12 : bs.length < 12
  · have h12' : ((bs.length : Nat) : Int) < 12 := by omega
    have e : decS n bs = ([], 10) := by unfold decS; rw [if_pos h12]
    simp only [k61_a, WK, vop, evAll, evOpt, evParts, vbuiltin, vun, vextract, Nat.reduceLT, Nat.reduceEqDiff, ↓reduceIte, reduceCtorEq, Nat.reduceAdd, Int.reduceLT, Int.reduceNeg, valloc_std, noSB, vhot, gD0, gD1, nilEP, vbox, hcx, ← hs1, lx1, hlen, h12', decide_true, e]
    exact ⟨.nils, rfl, nilO _, K1⟩
  have h12' : ¬ ((bs.length : Nat) : Int) < 12 := by omega
  obtain ⟨vb, hvb, hbb⟩ := hb.slice (t := 30) T22 S5 (vbounds_lo (k := .i64) (n := 12) (len := bs.length) (by omega) (by omega)) (by omega) (by omega)
  rw [show (12 : Int).toNat = 12 from rfl, List.take_of_length_le (by rw [List.length_drop]; omega)] at hbb
  have hbl := hbb.len T22
  have hbdl : (bs.drop 12).length = bs.length - 12 := List.length_drop
  have f4 : ∀ s, KS [] s1 s → Does Tryz.prog prims 87 [.int .i64 4, .optr σ.objs.length 0] s (.ret (uV (w4 bs 4))) s := fun s hk => word_does (hk.ko _ _ (by simp) ob) hb (k := 4) (by omega) (by omega)
  have f0 : ∀ s, KS [] s1 s → Does Tryz.prog prims 87 [.int .i64 0, .optr σ.objs.length 0] s (.ret (uV (w4 bs 0))) s := fun s hk => word_does (hk.ko _ _ (by simp) ob) hb (k := 0) (by omega) (by omega)
  have f8 : ∀ s, KS [] s1 s → Does Tryz.prog prims 87 [.int .i64 8, .optr σ.objs.length 0] s (.ret (uV (w4 bs 8))) s := fun s hk => word_does (hk.ko _ _ (by simp) ob) hb (k := 8) (by omega) (by omega)
  rw [hbdl] at hbl
  have cb := conv64b (bs.length - 12) (by omega)
  simp only [k61_a, WK, vop, evAll, evOpt, evParts, vbuiltin, vun, vextract, Nat.reduceLT, Nat.reduceEqDiff, ↓reduceIte, reduceCtorEq, Nat.reduceAdd, Int.reduceLT, Int.reduceNeg, valloc_std, noSB, vhot, gD0, gD1, nilEP, vbox, hcx, ← hs1, lx1, hlen, h12', decide_false, T22, hvb]
  refine KD.ret (f4 s1 (KS.refl _ _)) ?_
  by_cases hshort : bs.length - 12 < (w4 bs 4).toNat
  · have hshort' : ((bs.length - 12 : Nat) : Int) < (((w4 bs 4).toNat : Nat) : Int) := by omega
    have e : decS n bs = ([], 10) := by unfold decS; rw [if_neg h12, if_pos hshort]
    simp only [k61_a, WK, vop, evAll, evOpt, evParts, vbuiltin, vun, vextract, Nat.reduceLT, Nat.reduceEqDiff, ↓reduceIte, reduceCtorEq, Nat.reduceAdd, Int.reduceLT, Int.reduceNeg, valloc_std, noSB, vhot, uV, conv64a, hbl, cb, hshort', decide_true, nilEP, e]
    exact ⟨.nils, rfl, nilO _, K1⟩
  have hshort' : ¬ ((bs.length - 12 : Nat) : Int) < (((w4 bs 4).toNat : Nat) : Int) := by omega
  simp only [k61_a, WK, vop, evAll, evOpt, evParts, vbuiltin, vun, vextract, Nat.reduceLT, Nat.reduceEqDiff, ↓reduceIte, reduceCtorEq, Nat.reduceAdd, Int.reduceLT, Int.reduceNeg, valloc_std, noSB, vhot, uV, conv64a, hbl, cb, hshort', decide_false]
  refine KD.ret (f4 s1 (KS.refl _ _)) ?_
  by_cases hsmall : (w4 bs 4).toNat < bs.length - 12
  · have hsmall' : (((w4 bs 4).toNat : Nat) : Int) < ((bs.length - 12 : Nat) : Int) := by omega
    have e : decS n bs = ([], 11) := by unfold decS; rw [if_neg h12, if_neg hshort, if_pos (.inl hsmall)]
    simp only [k61_a, WK, vop, evAll, evOpt, evParts, vbuiltin, vun, vextract, Nat.reduceLT, Nat.reduceEqDiff, ↓reduceIte, reduceCtorEq, Nat.reduceAdd, Int.reduceLT, Int.reduceNeg, valloc_std, noSB, vhot, uV, conv64a, hbl, cb, hsmall', decide_true, nilEP, e]
    exact ⟨.nils, rfl, nilO _, K1⟩
  have hsmall' : ¬ (((w4 bs 4).toNat : Nat) : Int) < ((bs.length - 12 : Nat) : Int) := by omega
  by_cases hn0 : n < 0
  · have e : decS n bs = ([], 11) := by unfold decS; rw [if_neg h12, if_neg hshort, if_pos (.inr (.inl hn0))]
    simp only [k61_a, WK, vop, evAll, evOpt, evParts, vbuiltin, vun, vextract, Nat.reduceLT, Nat.reduceEqDiff, ↓reduceIte, reduceCtorEq, Nat.reduceAdd, Int.reduceLT, Int.reduceNeg, valloc_std, noSB, vhot, gD0, gD1, uV, conv64a, hbl, cb, hsmall', hn0, decide_true, decide_false, nilEP, e]
    exact ⟨.nils, rfl, nilO _, K1⟩
  by_cases hn9 : 999999999 < n
  · have e : decS n bs = ([], 11) := by unfold decS; rw [if_neg h12, if_neg hshort, if_pos (.inr (.inr (.inl hn9)))]
    simp only [k61_a, WK, vop, evAll, evOpt, evParts, vbuiltin, vun, vextract, Nat.reduceLT, Nat.reduceEqDiff, ↓reduceIte, reduceCtorEq, Nat.reduceAdd, Int.reduceLT, Int.reduceNeg, valloc_std, noSB, vhot, gD0, gD1, uV, conv64a, hbl, cb, hsmall', hn0, hn9, decide_true, decide_false, nilEP, e]
    exact ⟨.nils, rfl, nilO _, K1⟩
  simp only [k61_a, WK, vop, evAll, evOpt, evParts, vbuiltin, vun, vextract, Nat.reduceLT, Nat.reduceEqDiff, ↓reduceIte, reduceCtorEq, Nat.reduceAdd, Int.reduceLT, Int.reduceNeg, valloc_std, noSB, vhot, gD0, gD1, uV, conv64a, hbl, cb, hsmall', hn0, hn9, decide_false]
  refine KD.ret (f0 s1 (KS.refl _ _)) ?_
  by_cases h0 : w4 bs 0 = BitVec.ofInt 32 n
  · have h0' : (((w4 bs 0).toNat : Nat) : Int) = (((BitVec.ofInt 32 n).toNat : Nat) : Int) := by rw [h0]
    simp only [k61_a, WK, vop, evAll, evOpt, evParts, vbuiltin, vun, vextract, Nat.reduceLT, Nat.reduceEqDiff, ↓reduceIte, reduceCtorEq, Nat.reduceAdd, Int.reduceLT, Int.reduceNeg, valloc_std, noSB, vhot, gD0, gD1, uV, conv32, h0', eq_self, decide_true, Bool.not_true]
    refine KD.ret (f8 s1 (KS.refl _ _)) ?_
    obtain ⟨vc, hc, oc⟩ := hb.clipN (n := s1.toks.length) (k := 8) (by omega) (by omega) (σ := s1)
    have hc : vslice Tryz.prog 30 x none (some (.int .i64 8)) (some (.int .i64 8)) = some vc := hc
    obtain ⟨v6, s6, b1, b2, b3, b4⟩ := OwnV.append' (P := Tryz.prog) (t := 30) (t2 := 30) BT oc (σ0 := s1) rfl (Keep.refl s1) T22 hbb (by rw [List.length_take]; omega)
    have hs := crcsum_does (σ := s6) b2.bts (by rw [List.length_append, List.length_take]; omega)
    have K6 : KS [] σ s6 := K1.trans' (b3.ks [])
    have lx6 := lx (b3.ks [])
    simp only [k61_a, WK, vop, evAll, evOpt, evParts, vbuiltin, vun, vextract, Nat.reduceLT, Nat.reduceEqDiff, ↓reduceIte, reduceCtorEq, Nat.reduceAdd, Int.reduceLT, Int.reduceNeg, valloc_std, noSB, vhot, uV, lx1, hc, T22, b1]
    refine KD.ret hs ?_
    by_cases h8 : w4 bs 8 = crcSum (bs.take 8 ++ bs.drop 12)
    · have h8' : (((w4 bs 8).toNat : Nat) : Int) = (((crcSum (bs.take 8 ++ bs.drop 12)).toNat : Nat) : Int) := by rw [h8]
      have e : decS n bs = (bs.drop 12, 0) := by
        unfold decS
        rw [if_neg h12, if_neg hshort, if_neg (by rintro (h | h | h | h); exact hsmall h; exact hn0 h; exact hn9 h; exact h h0), if_neg (fun h => h h8)]
      have hKt : Keep ⟨[], σ.toks⟩ s6 := ⟨fun r o h => by simp at h, K6.tl, K6.tk⟩
      obtain ⟨v7, s7, c1, c2, c3, c4⟩ := OwnV.append' (P := Tryz.prog) (t := 30) (t2 := 30) BT (σ := s6) (show OwnV 5 σ.toks.length s6 (.slice .exact 1 [] 0) [] from .inr ⟨.exact, rfl, .inl rfl⟩) (σ0 := ⟨[], σ.toks⟩) rfl hKt T22 hbb (by simp; omega)
      rw [List.nil_append] at c2
      simp only [k61_a, WK, vop, evAll, evOpt, evParts, vbuiltin, vun, vextract, Nat.reduceLT, Nat.reduceEqDiff, ↓reduceIte, reduceCtorEq, Nat.reduceAdd, Int.reduceLT, Int.reduceNeg, valloc_std, noSB, vhot, uV, h8', eq_self, decide_true, Bool.not_true, build0 BT, c1, e, lx1, lx6]
      refine ⟨v7, rfl, c2, ⟨fun r o hr ho => ?_, ?_, c3.2.1, c3.2.2⟩⟩
      · rw [c4]; exact K6.ko r o hr ho
      · rw [c4]; exact K6.le
    · have h8' : ¬ (((w4 bs 8).toNat : Nat) : Int) = (((crcSum (bs.take 8 ++ bs.drop 12)).toNat : Nat) : Int) := fun h => h8 ((toNat_eq _ _).1 h)
      have e : decS n bs = ([], 12) := by
        unfold decS
        rw [if_neg h12, if_neg hshort, if_neg (by rintro (h | h | h | h); exact hsmall h; exact hn0 h; exact hn9 h; exact h h0), if_pos h8]
      simp only [k61_a, WK, vop, evAll, evOpt, evParts, vbuiltin, vun, vextract, Nat.reduceLT, Nat.reduceEqDiff, ↓reduceIte, reduceCtorEq, Nat.reduceAdd, Int.reduceLT, Int.reduceNeg, valloc_std, noSB, vhot, uV, h8', decide_false, Bool.not_false, nilEP, e, lx1, lx6]
      exact ⟨.nils, rfl, nilO _, K6⟩
  · have h0' : ¬ (((w4 bs 0).toNat : Nat) : Int) = (((BitVec.ofInt 32 n).toNat : Nat) : Int) := fun h => h0 ((toNat_eq _ _).1 h)
    have e : decS n bs = ([], 11) := by unfold decS; rw [if_neg h12, if_neg hshort, if_pos (.inr (.inr (.inr h0)))]
    simp only [k61_a, WK, vop, evAll, evOpt, evParts, vbuiltin, vun, vextract, Nat.reduceLT, Nat.reduceEqDiff, ↓reduceIte, reduceCtorEq, Nat.reduceAdd, Int.reduceLT, Int.reduceNeg, valloc_std, noSB, vhot, gD0, gD1, uV, conv32, h0', decide_false, Bool.not_false, nilEP, e]
    exact ⟨.nils, rfl, nilO _, K1⟩
theorem parts_eq {bs : List UInt8} (h : 12 ≤ bs.length) : bs.take 8 ++ ((bs.drop 8).take 4 ++ bs.drop 12) = bs := by
  have h1 : (bs.drop 8).take 4 ++ bs.drop 12 = bs.drop 8 := by
    have := List.take_append_drop 4 (bs.drop 8)
    rwa [List.drop_drop] at this
  rw [h1, List.take_append_drop]
theorem take8 {bs : List UInt8} : bs.take 8 = (bs.drop 0).take 4 ++ (bs.drop 4).take 4 := by
  rw [List.drop_zero]
  exact List.take_add (i := 4) (j := 4)
theorem head_eq {bs : List UInt8} {n : Int} (h : 12 ≤ bs.length) (h4 : (w4 bs 4).toNat = bs.length - 12) (h0 : w4 bs 0 = BitVec.ofInt 32 n) : headS n (bs.drop 12) = bs.take 8 := by
  unfold headS
  rw [take8, ← four_at (i := 0) (by omega), ← four_at (i := 4) (by omega), h0]
  congr 2
  apply BitVec.eq_of_toNat_eq
  have := (w4 bs 4).isLt
  rw [List.length_drop, BitVec.toNat_ofNat, Nat.mod_eq_of_lt (by omega), h4]
theorem enc_eq {bs : List UInt8} {n : Int} (h : 12 ≤ bs.length) (h4 : (w4 bs 4).toNat = bs.length - 12) (h0 : w4 bs 0 = BitVec.ofInt 32 n) : encS n (bs.drop 12) = bs ↔ w4 bs 8 = crcSum (bs.take 8 ++ bs.drop 12) := by
  have hh := head_eq h h4 h0
  unfold encS
  rw [hh]
  constructor
  · intro he
    have h2 : fourB (crcSum (bs.take 8 ++ bs.drop 12)) ++ bs.drop 12 = bs.drop 8 := by
      have := congrArg (List.drop 8) he
      rwa [List.drop_left' (by rw [List.length_take]; omega)] at this
    have h3 : (bs.drop 8).take 4 = fourB (crcSum (bs.take 8 ++ bs.drop 12)) := by
      rw [← h2]; exact List.take_left' (fourB_len _)
    exact w4_of h3
  · intro he
    rw [← he, four_at (by omega)]
    exact parts_eq h
theorem conv83 (b : UInt8) : vconv Tryz.prog 5 3 (.int .u8 ((b.toNat : Nat) : Int)) = some (.int .i64 ((b.toNat : Nat) : Int)) := by
  have := b.toNat_lt
  simp only [vconv, T5, T3]
  rw [wrap_i64 (by omega) (by omega)]
theorem rsize (p q r t : UInt8) : IntKind.i64.wrap (((q.toNat : Nat) : Int) * 256) = ((q.toNat * 256 : Nat) : Int) ∧ IntKind.i64.wrap (((r.toNat : Nat) : Int) * 65536) = ((r.toNat * 65536 : Nat) : Int) ∧ IntKind.i64.wrap (((t.toNat : Nat) : Int) * 16777216) = ((t.toNat * 16777216 : Nat) : Int) ∧
    IntKind.i64.wrap (((p.toNat : Nat) : Int) + ((q.toNat * 256 : Nat) : Int)) = ((p.toNat + q.toNat * 256 : Nat) : Int) ∧ IntKind.i64.wrap (((p.toNat + q.toNat * 256 : Nat) : Int) + ((r.toNat * 65536 : Nat) : Int)) = ((p.toNat + q.toNat * 256 + r.toNat * 65536 : Nat) : Int) ∧
    IntKind.i64.wrap (((p.toNat + q.toNat * 256 + r.toNat * 65536 : Nat) : Int) + ((t.toNat * 16777216 : Nat) : Int)) = ((p.toNat + q.toNat * 256 + r.toNat * 65536 + t.toNat * 16777216 : Nat) : Int) := by
  have h0 := p.toNat_lt
  have h1 := q.toNat_lt
  have h2 := r.toNat_lt
  have h3 := t.toNat_lt
  refine ⟨?_, ?_, ?_, ?_, ?_, ?_⟩
  · rw [wrap_i64 (by omega) (by omega)]; omega
  · rw [wrap_i64 (by omega) (by omega)]; omega
  · rw [wrap_i64 (by omega) (by omega)]; omega
  · rw [wrap_i64 (by omega) (by omega)]; omega
  · rw [wrap_i64 (by omega) (by omega)]; omega
  · rw [wrap_i64 (by omega) (by omega)]; omega
theorem sbN {a b : List UInt8} : strBin .neq a b = some (.bool (!decide (a = b))) := rfl
theorem sbE {a b : List UInt8} : strBin .eql a b = some (.bool (decide (a = b))) := rfl
theorem rdecode_sees {σ : St} {n : Int} {x : V} {bs : List UInt8} (hb : BtsV x bs) (hl : bs.length ≤ 100000000) :
    ∃ q σ', Does Tryz.prog prims 62 [.int .i64 n, x] σ q σ' ∧ ∃ v, q = .ret (.tuple [v, .int .i64 ((decS n bs).2 : Nat)]) ∧ BtsV v (decS n bs).1 ∧ Keep σ σ' := by
  apply k62_is.does (by simp)
  have hlen := hb.len T22
  by_cases h12 : bs.length < 12
  · have h12' : ((bs.length : Nat) : Int) < 12 := by omega
    have e : decS n bs = ([], 10) := by unfold decS; rw [if_pos h12]
    simp only [k62_a, WK, vop, evAll, evOpt, evParts, vbuiltin, vun, vextract, Nat.reduceLT, Nat.reduceEqDiff, ↓reduceIte, reduceCtorEq, Nat.reduceAdd, Int.reduceLT, Int.reduceNeg, valloc_std, noSB, vhot, gD0, gD1, nilEP, hlen, h12', decide_true, e]
    exact ⟨.nils, rfl, .inl ⟨rfl, rfl⟩, Keep.refl _⟩
  have h12' : ¬ ((bs.length : Nat) : Int) < 12 := by omega
  obtain ⟨m5, m6, m7, a5, a6, a7⟩ := rsize (bs.getD 4 0) (bs.getD 5 0) (bs.getD 6 0) (bs.getD 7 0)
  have hw4 : (w4 bs 4).toNat = (bs.getD 4 0).toNat + (bs.getD 5 0).toNat * 256 + (bs.getD 6 0).toNat * 65536 + (bs.getD 7 0).toNat * 16777216 := w4_nat bs 4
  rw [← hw4] at a7
  clear hw4
  generalize hS : (w4 bs 4).toNat = S at a7
  have hat := fun (i : Nat) (hi : i < 12) => hb.at' (show i < bs.length by omega)
  have t4 : vindexAddr Tryz.prog 30 x (.int .i64 4) = some (.eptr (bs.map byteV) 4) := hat 4 (by omega)
  have t5 : vindexAddr Tryz.prog 30 x (.int .i64 5) = some (.eptr (bs.map byteV) 5) := hat 5 (by omega)
  have t6 : vindexAddr Tryz.prog 30 x (.int .i64 6) = some (.eptr (bs.map byteV) 6) := hat 6 (by omega)
  have t7 : vindexAddr Tryz.prog 30 x (.int .i64 7) = some (.eptr (bs.map byteV) 7) := hat 7 (by omega)
  have s12 : IntKind.i64.wrap (((bs.length : Nat) : Int) - 12) = ((bs.length - 12 : Nat) : Int) := by rw [wrap_i64 (by omega) (by omega)]; omega
  by_cases hshort : bs.length - 12 < S
  · have hshort' : ((bs.length - 12 : Nat) : Int) < ((S : Nat) : Int) := Int.ofNat_lt.2 hshort
    have e : decS n bs = ([], 10) := by unfold decS; rw [hS]; rw [if_neg h12, if_pos hshort]
    simp only [k62_a, WK, vop, evAll, evOpt, evParts, vbuiltin, vun, vextract, Nat.reduceLT, Nat.reduceEqDiff, ↓reduceIte, reduceCtorEq, Nat.reduceAdd, Int.reduceLT, Int.reduceNeg, valloc_std, noSB, vhot, gD0, gD1, nilEP, hlen, h12', decide_false, t4, t5, t6, t7, byte_ld (show 4 < bs.length by omega), byte_ld (show 5 < bs.length by omega), byte_ld (show 6 < bs.length by omega), byte_ld (show 7 < bs.length by omega), conv83, m5, m6, m7, a5, a6, a7, s12, hshort', decide_true, e]
    exact ⟨.nils, rfl, .inl ⟨rfl, rfl⟩, Keep.refl _⟩
  have hshort' : ¬ ((bs.length - 12 : Nat) : Int) < ((S : Nat) : Int) := fun h => hshort (Int.ofNat_lt.1 h)
  simp only [k62_a, WK, vop, evAll, evOpt, evParts, vbuiltin, vun, vextract, Nat.reduceLT, Nat.reduceEqDiff, ↓reduceIte, reduceCtorEq, Nat.reduceAdd, Int.reduceLT, Int.reduceNeg, valloc_std, noSB, vhot, gD0, gD1, nilEP, hlen, h12', decide_false, t4, t5, t6, t7, byte_ld (show 4 < bs.length by omega), byte_ld (show 5 < bs.length by omega), byte_ld (show 6 < bs.length by omega), byte_ld (show 7 < bs.length by omega), conv83, m5, m6, m7, a5, a6, a7, s12, hshort']
  clear m5 m6 m7 a5 a6 a7
  by_cases hsmall : S < bs.length - 12
  · have hsmall' : ((S : Nat) : Int) < ((bs.length - 12 : Nat) : Int) := Int.ofNat_lt.2 hsmall
    have e : decS n bs = ([], 11) := by unfold decS; rw [hS]; rw [if_neg h12, if_neg hshort, if_pos (.inl hsmall)]
    simp only [k62_a, WK, vop, evAll, evOpt, evParts, vbuiltin, vun, vextract, Nat.reduceLT, Nat.reduceEqDiff, ↓reduceIte, reduceCtorEq, Nat.reduceAdd, Int.reduceLT, Int.reduceNeg, valloc_std, noSB, vhot, gD0, gD1, hlen, s12, hsmall', decide_true, nilEP, e]
    exact ⟨.nils, rfl, .inl ⟨rfl, rfl⟩, Keep.refl _⟩
  have hsmall' : ¬ ((S : Nat) : Int) < ((bs.length - 12 : Nat) : Int) := fun h => hsmall (Int.ofNat_lt.1 h)
  by_cases hn0 : n < 0
  · have e : decS n bs = ([], 11) := by unfold decS; rw [hS]; rw [if_neg h12, if_neg hshort, if_pos (.inr (.inl hn0))]
    simp only [k62_a, WK, vop, evAll, evOpt, evParts, vbuiltin, vun, vextract, Nat.reduceLT, Nat.reduceEqDiff, ↓reduceIte, reduceCtorEq, Nat.reduceAdd, Int.reduceLT, Int.reduceNeg, valloc_std, noSB, vhot, gD0, gD1, hlen, s12, hsmall', hn0, decide_true, decide_false, nilEP, e]
    exact ⟨.nils, rfl, .inl ⟨rfl, rfl⟩, Keep.refl _⟩
  by_cases hn9 : 999999999 < n
  · have e : decS n bs = ([], 11) := by unfold decS; rw [hS]; rw [if_neg h12, if_neg hshort, if_pos (.inr (.inr (.inl hn9)))]
    simp only [k62_a, WK, vop, evAll, evOpt, evParts, vbuiltin, vun, vextract, Nat.reduceLT, Nat.reduceEqDiff, ↓reduceIte, reduceCtorEq, Nat.reduceAdd, Int.reduceLT, Int.reduceNeg, valloc_std, noSB, vhot, gD0, gD1, hlen, s12, hsmall', hn0, hn9, decide_true, decide_false, nilEP, e]
    exact ⟨.nils, rfl, .inl ⟨rfl, rfl⟩, Keep.refl _⟩
  obtain ⟨v4, hv4, hb4⟩ := hb.slice (t := 30) T22 S5 (vbounds_hi (k := .i64) (n := 4) (len := bs.length) (by omega) (by omega)) (by omega) (by omega)
  rw [show (4 : Int).toNat = 4 from rfl, List.drop_zero, Nat.sub_zero] at hb4
  have hf4 : fourB (w4 bs 0) = bs.take 4 := by rw [four_at (by omega), List.drop_zero]
  simp only [k62_a, WK, vop, evAll, evOpt, evParts, vbuiltin, vun, vextract, Nat.reduceLT, Nat.reduceEqDiff, ↓reduceIte, reduceCtorEq, Nat.reduceAdd, Int.reduceLT, Int.reduceNeg, valloc_std, noSB, vhot, gD0, gD1, hlen, s12, hsmall', hn0, hn9, decide_false, conv32]
  refine KD.ret (rfour_does _) ?_
  by_cases h0 : w4 bs 0 = BitVec.ofInt 32 n
  · have h0' : fourB (BitVec.ofInt 32 n) = bs.take 4 := by rw [← h0, hf4]
    have cs0 : vconv Tryz.prog 30 9 (.slice .exact 1 ((bs.take 4).map byteV) 4) = some (.str (bs.take 4)) := by rw [← h0']; exact conv_str (four_bts _)
    obtain ⟨vb, hvb, hbb⟩ := hb.slice (t := 30) T22 S5 (vbounds_lo (k := .i64) (n := 12) (len := bs.length) (by omega) (by omega)) (by omega) (by omega)
    rw [show (12 : Int).toNat = 12 from rfl, List.take_of_length_le (by rw [List.length_drop]; omega)] at hbb
    have hbdl : (bs.drop 12).length = bs.length - 12 := List.length_drop
    obtain ⟨v7, s7, c1, c2, c3, c4⟩ := OwnV.append' (P := Tryz.prog) (t := 30) (t2 := 30) BT (σ := σ) (show OwnV 5 σ.toks.length σ (.slice .exact 1 [] 0) [] from .inr ⟨.exact, rfl, .inl rfl⟩) (σ0 := σ) rfl (Keep.refl σ) T22 hbb (by simp; omega)
    rw [List.nil_append] at c2
    obtain ⟨q8, s8, d8, v8, rfl, b8, k8⟩ := rencode_sees (σ := s7) (n := n) c2.bts (by omega)
    have hee := enc_eq (n := n) (bs := bs) (by omega) (hS.trans (by omega)) h0
    simp only [k62_a, WK, vop, evAll, evOpt, evParts, vbuiltin, vun, vextract, Nat.reduceLT, Nat.reduceEqDiff, ↓reduceIte, reduceCtorEq, Nat.reduceAdd, Int.reduceLT, Int.reduceNeg, valloc_std, noSB, vhot, gD0, gD1, cs0, hv4, T22, conv_str hb4, sbN, h0', eq_self, decide_true, Bool.not_true, build0 BT, hvb, c1]
    refine KD.ret d8 ?_
    by_cases h8 : w4 bs 8 = crcSum (bs.take 8 ++ bs.drop 12)
    · have h8' := hee.2 h8
      have e : decS n bs = (bs.drop 12, 0) := by
        unfold decS
        rw [hS]
        rw [if_neg h12, if_neg hshort, if_neg (by rintro (h | h | h | h); exact hsmall h; exact hn0 h; exact hn9 h; exact h h0), if_neg (fun h => h h8)]
      simp only [k62_a, WK, vop, evAll, evOpt, evParts, vbuiltin, vun, vextract, Nat.reduceLT, Nat.reduceEqDiff, ↓reduceIte, reduceCtorEq, Nat.reduceAdd, Int.reduceLT, Int.reduceNeg, valloc_std, noSB, vhot, gD0, gD1, conv_str b8, conv_str hb, sbN, h8', eq_self, decide_true, Bool.not_true, e]
      exact ⟨v7, rfl, c2.bts, c3.trans k8⟩
    · have h8' : ¬ encS n (bs.drop 12) = bs := fun h => h8 (hee.1 h)
      have e : decS n bs = ([], 12) := by
        unfold decS
        rw [hS]
        rw [if_neg h12, if_neg hshort, if_neg (by rintro (h | h | h | h); exact hsmall h; exact hn0 h; exact hn9 h; exact h h0), if_pos h8]
      simp only [k62_a, WK, vop, evAll, evOpt, evParts, vbuiltin, vun, vextract, Nat.reduceLT, Nat.reduceEqDiff, ↓reduceIte, reduceCtorEq, Nat.reduceAdd, Int.reduceLT, Int.reduceNeg, valloc_std, noSB, vhot, gD0, gD1, conv_str b8, conv_str hb, sbN, h8', decide_false, Bool.not_false, nilEP, e]
      exact ⟨.nils, rfl, .inl ⟨rfl, rfl⟩, c3.trans k8⟩
  · have h0' : ¬ fourB (BitVec.ofInt 32 n) = bs.take 4 := fun h => h0 (fourB_inj (by rw [hf4, h]))
    have e : decS n bs = ([], 11) := by unfold decS; rw [hS]; rw [if_neg h12, if_neg hshort, if_pos (.inr (.inr (.inr h0)))]
    simp only [k62_a, WK, vop, evAll, evOpt, evParts, vbuiltin, vun, vextract, Nat.reduceLT, Nat.reduceEqDiff, ↓reduceIte, reduceCtorEq, Nat.reduceAdd, Int.reduceLT, Int.reduceNeg, valloc_std, noSB, vhot, gD0, gD1, conv_str (four_bts (BitVec.ofInt 32 n)), hv4, T22, conv_str hb4, sbN, h0', decide_false, Bool.not_false, nilEP, e]
    exact ⟨.nils, rfl, .inl ⟨rfl, rfl⟩, Keep.refl _⟩
theorem TFS : Tryz.prog.underlying 46 = some (.slice 81) := by kernel_rfl
theorem GFi : isAggT Tryz.prog 81 = some true := by kernel_rfl
theorem SFi : sizeT Tryz.prog 81 = some 3 := by kernel_rfl
theorem GFS : isAggT Tryz.prog 46 = some false := by kernel_rfl
theorem SFS : sizeT Tryz.prog 46 = some 1 := by kernel_rfl
theorem ZFi : zeroT Tryz.prog 81 = some (.agg [.str [], .nils, .nils]) := by kernel_rfl
theorem bFi : (Tryz.prog.info? 81).map (·.bytes) = some 64 := by kernel_rfl
theorem rFA : ∀ (r k : Nat) (hk : k < 6), vfieldAddr Tryz.prog 48 (.optr r 0) k = some (.optr r k)
  | r, 0, _ => by kernel_rfl
  | r, 1, _ => by kernel_rfl
  | r, 2, _ => by kernel_rfl
  | r, 3, _ => by kernel_rfl
  | r, 4, _ => by kernel_rfl
  | r, 5, _ => by kernel_rfl
theorem fFA0 (r o : Nat) : vfieldAddr Tryz.prog 81 (.optr r o) 0 = some (.optr r o) := by kernel_rfl
theorem fFA1 (r o : Nat) : vfieldAddr Tryz.prog 81 (.optr r o) 1 = some (.optr r (o + 1)) := by kernel_rfl
theorem fFA2 (r o : Nat) : vfieldAddr Tryz.prog 81 (.optr r o) 2 = some (.optr r (o + 2)) := by kernel_rfl
theorem bytesLt_lt : ∀ a b : List UInt8, bytesLt a b = decide (a < b)
  | a, [] => by simp [bytesLt]
  | [], _ :: _ => by simp [bytesLt]
  | a :: x, b :: y => by
    rw [bytesLt, bytesLt_lt x y]
    simp only [List.cons_lt_cons_iff]
    rw [Bool.eq_iff_iff]
    simp
theorem sbL {a b : List UInt8} : strBin .lss a b = some (.bool (decide (a < b))) := by rw [← bytesLt_lt]; rfl
structure RE where
  f : Fl
  s : V
  w : V
def RE.cells (x : RE) : List V := [.str x.f.name, x.s, x.w]
def RE.Ok (x : RE) : Prop := BtsV x.s x.f.safe ∧ BtsV x.w x.f.wait
def rcells (rs : List RE) : List V := rs.flatMap RE.cells
theorem RE.cells_len (x : RE) : x.cells.length = 3 := rfl
theorem rcells_len (rs : List RE) : (rcells rs).length = rs.length * 3 := flat_len RE.cells_len rs
theorem RE.one {x : RE} (h : x.Ok) : x.cells.all one = true := by
  simp only [RE.cells, List.all_cons, List.all_nil, h.1.one, h.2.one, Bool.and_true, Bool.and_self]
  rfl
def RRow (objs : List Ob) (fv : V) (q : Option Nat) (rs : List RE) : Prop := (fv = .nils ∧ q = none ∧ rs = []) ∨ ∃ ro, fv = .hslice ro 0 3 rs.length ∧ q = some ro ∧ objs[ro]? = some (.cells (rcells rs))
theorem RRow.len {objs : List Ob} {fv : V} {q : Option Nat} {rs : List RE} (h : RRow objs fv q rs) : vlen Tryz.prog 46 fv = some (.int .i64 (rs.length : Nat)) := by
  rcases h with ⟨rfl, rfl, rfl⟩ | ⟨ro, rfl, _⟩ <;> simp [vlen, TFS]
theorem RRow.keep {σ σ' : St} {fv : V} {q : Option Nat} {rs : List RE} {S : List Nat} (h : RRow σ.objs fv q rs) (hk : KS S σ σ') (hs : ∀ x ∈ q.toList, x ∉ S) : RRow σ'.objs fv q rs := by
  rcases h with h | ⟨ro, h1, h2, h3⟩
  · exact .inl h
  · exact .inr ⟨ro, h1, h2, hk.ko _ _ (hs ro (by simp [h2])) h3⟩
theorem RRow.lt {objs : List Ob} {fv : V} {q : Option Nat} {rs : List RE} (h : RRow objs fv q rs) : ∀ x ∈ q.toList, x < objs.length := by
  rcases h with ⟨_, rfl, _⟩ | ⟨ro, _, rfl, h3⟩
  · intro x hx; cases hx
  · intro x hx; simp at hx; subst hx; exact (gA0.1 h3).1
theorem RRow.one {objs : List Ob} {fv : V} {q : Option Nat} {rs : List RE} (h : RRow objs fv q rs) : one fv = true := by
  rcases h with ⟨rfl, _⟩ | ⟨ro, rfl, _⟩ <;> rfl
theorem RRow.at {objs : List Ob} {fv : V} {q : Option Nat} {rs : List RE} (h : RRow objs fv q rs) {i : Nat} (hi : i < rs.length) : ∃ ro, q = some ro ∧ objs[ro]? = some (.cells (rcells rs)) ∧ vindexAddr Tryz.prog 46 fv (.int .i64 (i : Int)) = some (.optr ro (i * 3)) ∧ vload Tryz.prog objs 81 (.optr ro (i * 3)) = some (.agg rs[i].cells) := by
  rcases h with ⟨_, _, rfl⟩ | ⟨ro, rfl, rfl, h3⟩
  · simp at hi
  · have hi' : (i : Int) < rs.length := by omega
    refine ⟨ro, rfl, h3, by simp [vindexAddr, TFS, SFi, hi'], ?_⟩
    rw [vload_sub h3 GFi SFi (by rw [rcells_len]; omega)]
    unfold rcells
    rw [flat_part RE.cells_len hi]
theorem RRow.push {σ : St} {fv : V} {q : Option Nat} {rs : List RE} (h : RRow σ.objs fv q rs) (hok : ∀ x ∈ rs, x.Ok) {x : RE} (hx : x.Ok) (hl : rs.length ≤ 1000000) :
    ∃ y s1 fv' q' s2, vbuildRow Tryz.prog σ 46 1 [(0, .agg x.cells)] = some (y, s1) ∧ vappendRow Tryz.prog s1 46 46 fv y = some (fv', s2) ∧ RRow s2.objs fv' q' (rs ++ [x]) ∧ KS q.toList σ s2 ∧ ∀ z ∈ q'.toList, σ.objs.length ≤ z := by
  have hone := RE.one hx
  have hz : vcells (V.agg [.str [], .nils, .nils]) = [.str [], .nils, .nils] := rfl
  have hc : vcells (V.agg x.cells) = x.cells := rfl
  have e3 : List.range 3 = [0, 1, 2] := by decide
  have hb0 : ∀ a b c : V, [a, b, c].all Q.one = true → vbuildRow Tryz.prog σ 46 1 [(0, .agg [a, b, c])] = some (.hslice σ.objs.length 0 3 1, ⟨σ.objs ++ [.cells [a, b, c]], σ.toks⟩) := by
    intro a b c h
    have hc : vcells (V.agg [a, b, c]) = [a, b, c] := rfl
    simp only [List.all_cons, List.all_nil, Bool.and_true, Bool.and_eq_true] at h
    simp [vbuildRow, TFS, SFi, ZFi, hz, zeroCellsV, vfill, e3, hc, setAll, h.1, h.2.1, h.2.2]
  have hb : vbuildRow Tryz.prog σ 46 1 [(0, .agg x.cells)] = some (.hslice σ.objs.length 0 3 1, ⟨σ.objs ++ [.cells x.cells], σ.toks⟩) := hb0 _ _ _ hone
  obtain ⟨s1, hs1⟩ : ∃ s1 : St, s1 = ⟨σ.objs ++ [.cells x.cells], σ.toks⟩ := ⟨_, rfl⟩
  rw [← hs1] at hb
  have K1 : KS [] σ s1 := by rw [hs1]; exact KS.push _ _ _
  have h1 : RRow s1.objs fv q rs := h.keep K1 fun x _ => by simp
  have hy : s1.objs[σ.objs.length]? = some (.cells x.cells) := by rw [hs1]; exact push_new _ _
  have L1 : s1.objs.length = σ.objs.length + 1 := by rw [hs1]; simp
  have hn : vnewsO Tryz.prog s1.objs 46 (.hslice σ.objs.length 0 3 1) 3 = some (x.cells, 1) := by
    have : List.take 3 x.cells = x.cells := by simp [RE.cells]
    simp [vnewsO, vnews, TFS, hy, RE.cells_len, this]
  have hxl : x.cells.length = 3 := rfl
  rcases h1 with ⟨rfl, rfl, rfl⟩ | ⟨ro, rfl, rfl, h3⟩
  · refine ⟨_, s1, .hslice s1.objs.length 0 3 1, some s1.objs.length, ⟨s1.objs ++ [.cells x.cells], s1.toks⟩, hb, ?_, .inr ⟨_, rfl, rfl, ?_⟩, K1.trans (KS.push [] s1 _) fun x hx => .inl hx, fun z hz => ?_⟩
    · simp [vappendRow, TFS, bFi, SFi, ZFi, hz, hn]
    · have := push_new s1.objs (.cells x.cells)
      simp only [List.nil_append, rcells, List.flatMap_cons, List.flatMap_nil, List.append_nil]
      exact this
    · simp at hz; omega
  · refine ⟨_, s1, .hslice s1.objs.length 0 3 (rs.length + 1), some s1.objs.length, ⟨s1.objs.set ro .dead ++ [.cells (rcells rs ++ x.cells)], s1.toks⟩, hb, ?_, .inr ⟨_, by simp, rfl, ?_⟩, ?_, fun z hz => ?_⟩
    · have h4 : List.take (rs.length * 3) (rcells rs) = rcells rs := List.take_of_length_le (by rw [rcells_len]; omega)
      have h5 : rs.length + 1 ≤ 140737488355328 := by omega
      have h6 : (rs.length + 1) * 64 ≤ 140737488355328 := by omega
      have h7 := rcells_len rs
      simp [vappendRow, TFS, bFi, SFi, ZFi, hz, hn, h3, h4, h5, h6, h7, hone]
    · have := push_new (s1.objs.set ro .dead) (.cells (rcells rs ++ x.cells))
      rw [List.length_set] at this
      simp only [rcells, List.flatMap_append, List.flatMap_cons, List.flatMap_nil, List.append_nil] at this ⊢
      exact this
    · refine (K1.mono fun x hx => by cases hx).trans' ⟨fun p o hp ho => ?_, by simp, Nat.le_refl _, fun _ h => h⟩
      have hpl := (gA0.1 ho).1
      simp only
      rw [gA2 (by rw [List.length_set]; exact hpl), gA3 (fun e => hp (by simp [e]))]
      exact ho
    · simp at hz; omega
theorem fileNew {σ : St} {x : RE} (hx : x.Ok) : vstore Tryz.prog ⟨σ.objs ++ [.cells [.str [], .nils, .nils]], σ.toks⟩ 81 (.optr σ.objs.length 0) (.agg x.cells) = some ⟨σ.objs ++ [.cells x.cells], σ.toks⟩ := by
  rw [vstore_agg (cs := [.str [], .nils, .nils]) (cs' := x.cells) (push_new _ _) (by rw [SFi]; rfl) rfl (RE.one hx)]
  simp
structure RefAt (σ : St) (r : Nat) (d : Dk) (q : Option Nat) (rs : List RE) : Prop where
  hd : ∃ fv, σ.objs[r]? = some (.cells [fv, .int .i64 d.room, .bool d.on, .int .i64 (d.writes : Nat), .int .i64 (d.armed : Nat), .int .i64 d.keep]) ∧ RRow σ.objs fv q rs
  ok : ∀ x ∈ rs, x.Ok
  fl : rs.map RE.f = d.files
  ne : r ∉ q.toList
theorem RefAt.keep {σ σ' : St} {r : Nat} {d : Dk} {q : Option Nat} {rs : List RE} {S : List Nat} (h : RefAt σ r d q rs) (hk : KS S σ σ') (hs : ∀ x ∈ r :: q.toList, x ∉ S) : RefAt σ' r d q rs := by
  obtain ⟨⟨fv, h1, h2⟩, h3, h4, h5⟩ := h
  exact ⟨⟨fv, hk.ko _ _ (hs r (by simp)) h1, h2.keep hk fun x hx => hs x (List.mem_cons_of_mem _ hx)⟩, h3, h4, h5⟩
theorem RefAt.lt {σ : St} {r : Nat} {d : Dk} {q : Option Nat} {rs : List RE} (h : RefAt σ r d q rs) : ∀ x ∈ r :: q.toList, x < σ.objs.length := by
  obtain ⟨⟨fv, h1, h2⟩, _⟩ := h
  intro x hx
  rcases List.mem_cons.1 hx with rfl | hx
  · exact (gA0.1 h1).1
  · exact h2.lt x hx
def RNext (σ : St) (r : Nat) (q : Option Nat) (σ' : St) (d' : Dk) : Prop := ∃ q' rs', RefAt σ' r d' q' rs' ∧ KS (r :: q.toList) σ σ' ∧ ∀ x ∈ r :: q'.toList, x ∈ r :: q.toList ∨ σ.objs.length ≤ x
theorem RNext.refl {σ : St} {r : Nat} {d : Dk} {q : Option Nat} {rs : List RE} (h : RefAt σ r d q rs) : RNext σ r q σ d := ⟨q, rs, h, KS.refl _ _, fun x hx => .inl hx⟩
theorem RNext.trans {σ σ1 σ2 : St} {r : Nat} {d : Dk} {q q1 : Option Nat} (hk : KS (r :: q.toList) σ σ1) (hs : ∀ x ∈ r :: q1.toList, x ∈ r :: q.toList ∨ σ.objs.length ≤ x) (h : RNext σ1 r q1 σ2 d) : RNext σ r q σ2 d := by
  obtain ⟨q', rs', h1, h2, h3⟩ := h
  refine ⟨q', rs', h1, hk.trans h2 hs, fun x hx => ?_⟩
  have := hk.le
  rcases h3 x hx with h | h
  · exact hs x h
  · exact .inr (by omega)
theorem RNext.only {σ σ1 : St} {r : Nat} {d : Dk} {q : Option Nat} {rs : List RE} (h : RefAt σ r d q rs) (hk : KS [] σ σ1) : RNext σ r q σ1 d := ⟨q, rs, h.keep hk fun x _ => by simp, hk.mono (fun x hx => by cases hx), fun x hx => .inl hx⟩
theorem RefAt.head {σ : St} {r : Nat} {d d2 : Dk} {q : Option Nat} {rs : List RE} (h : RefAt σ r d q rs) (hf : d2.files = d.files) {fv : V} (hv : RRow σ.objs fv q rs) {σ' : St} (hs : σ' = ⟨σ.objs.set r (.cells [fv, .int .i64 d2.room, .bool d2.on, .int .i64 (d2.writes : Nat), .int .i64 (d2.armed : Nat), .int .i64 d2.keep]), σ.toks⟩) : RefAt σ' r d2 q rs ∧ KS (r :: q.toList) σ σ' := by
  have hrl := h.lt r (by simp)
  have hne := h.ne
  have K : KS [r] σ σ' := by rw [hs]; exact KS.set (.inl (by simp)) _
  refine ⟨⟨⟨fv, by rw [hs]; simp only; rw [gA5 hrl], hv.keep K fun x hx hx2 => ?_⟩, h.ok, by rw [hf]; exact h.fl, h.ne⟩, K.mono fun x hx => .inl (by rw [List.mem_singleton] at hx; subst hx; simp)⟩
  rw [List.mem_singleton] at hx2
  subst hx2
  exact hne hx
end Go.Proofs.YtnegdinonfjdfaaGreatDoor.Q
