import Derived.Test.YtnegdinonfjdfaaGreatDoorMb11
set_option maxRecDepth 100000
namespace Go.Proofs.YtnegdinonfjdfaaGreatDoor.rowWalDoes
open Go Go.ChangeShapes Go.WideShapes Go.ChangeAt Go.RowKit Go.Proofs Go.Proofs.YtnegdinonfjdfaaGreatDoor.Q
theorem ypg (H : Type) (enc : TypeId × Value → H) (W : World) (base : Nat) (ar : Array Value) (ds gs : List (DataW H)) (bf : List MemPlace)
   (hv : ∀ (j : Nat) t v, Tryz.f4.params[j]? = some t → ar[j]? = some v → Value.okWide Tryz.prog W .any base t v)
   (hW : DataW.Whole enc Tryz.prog Tryz.f4.params.toList Rows.walDoesSpec.vars false W ar.toList ds gs bf) (hk : Rows.uptoSmall H (ds ++ gs) = true) (hL : laidMetH Tryz.prog listL W) :
   Calls Tryz.prog 4 ar W fun e W' => ∃ v, e = .returned v ∧ Rows.walDoesSpec.post enc Tryz.prog Tryz.f4 false true false false W ar v W' := by
 have hl : laidOutB Tryz.prog = true := (by kernel_rfl); have hS : yiW Tryz.prog [50, 53, 9, 30, 5, 3, 51, 56] = true := (by kernel_rfl); have hpar : Tryz.f4.params.toList = [50, 3, 51] := rfl; have hW' := hW; obtain ⟨p, q, hA, hV, rfl, _, _⟩ := hW; obtain ⟨rfl, rfl⟩ := trodVars_none hV; rw [List.append_nil] at hk; have hk2 : Rows.uptoBulkAll ds ≤ 1048576 := of_decide_eq_true hk; rw [hpar] at hA; refine (ylL (yo4 W.heap.size W (ypZ hL)) hl hS (ts := [50, 3, 51]) (by decide) (by decide) yiK (fun j t v h1 h2 => hv j t v (by rw [← Array.getElem?_toList, hpar]; exact h1) (by rw [← Array.getElem?_toList]; exact h2)) hA hk2).mono fun e W' h => ?_; obtain ⟨rfl, hb⟩ := h
 exact yoR (tb := 4) hl rfl (by kernel_rfl) (by kernel_rfl) rfl hW' (by
   have hgs : ds.length = 3 := by rw [ygK hA]; rfl
   match ds, hgs with
   | [d0, d1, d2], _ => exact ⟨rfl, rfl, rfl⟩) hb
theorem re (os : Os) {H : Type} (enc : TypeId × Value → H) : ∃ pl, DataW.whole enc Tryz.prog ((yf6 os).forCall (fun _ _ => 0) ⟨#[], #[.slice none 0 0, .int .i64 0, .slice none 0 0], []⟩).memory Tryz.f4.params.toList Rows.walDoesSpec.vars false (#[.slice none 0 0, .int .i64 0, .slice none 0 0] : Array Value).toList 8 = some ([.nil, .lit (.int .i64 0), .nil], [], pl) :=
 ⟨[], by kernel_rfl⟩
theorem li (os : Os) (st : os.Started) (H : Type) (enc : TypeId × Value → H) (F : Stop.Interp) :
   ReturnsInHanded {} Tryz.checked os 4 .any ((Rows.OpenSpec.upto Rows.walDoesSpec).preRow enc Tryz.prog Tryz.f4 Rows.walDoesUptoRow.domain false Rows.walDoesUptoRow.laid) (((Rows.OpenSpec.upto Rows.walDoesSpec).at F).post enc Tryz.prog Tryz.f4 false true false false) := by
 obtain ⟨pl, hx⟩ := re os enc
 refine returnsInHanded_of_row (C := Tryz.checked) (s := Rows.OpenSpec.upto Rows.walDoesSpec) (by kernel_rfl) st (by kernel_rfl) Tryz.func4
   (witness_row_atRef (enc := enc) (C := Tryz.checked) false (yf6 os) #[.slice none 0 0, .int .i64 0, .slice none 0 0] rfl (by kernel_rfl) (by kernel_rfl) (by kernel_rfl)
     (OpenSpec.preRow_of_cond 8 hx (by kernel_rfl) (fun k hk => by cases hk; kernel_rfl) (by kernel_rfl) (yo9 os _))) ?_
 intro W base ar ds gs bf hv hW _ hc _ hL _ _; exact ypg H enc W base ar ds gs bf hv hW (hc _ rfl) hL
theorem said : Rows.WalDoesUptoSaid :=
 OpenClaim.holds_of_cond 4 Tryz.f4 rfl rfl rfl rfl rfl rfl rfl ⟨rfl, rfl, rfl, rfl, rfl⟩ rfl rfl rfl rfl rfl (by kernel_rfl) Tryz.func4 (by kernel_rfl)
   (of_decide_eq_true (by kernel_rfl)) (by unfold Func.isWrapper; rw [if_neg (by decide +kernel)]; exact ⟨rfl, rfl⟩)
   (fun os st H enc _ F => by rw [OpenClaim.pre_eq_preRow]; exact li os st H enc F)
theorem plain (f : FuncId) (fn : Func) (hf : Tryz.pinned.checked.prog.funcNamed "quern/quernlaw04.WalDoes" = some f) (hfn : Tryz.pinned.checked.prog.funcs[f]? = some fn) :
   true = Tryz.pinned.checked.prog.looks [] ∧ ∀ (j : Nat) t, fn.params[j]? = some t → Tryz.pinned.checked.prog.wantsStandIn t = false := by
 obtain rfl : f = 4 := Option.some.inj ((show Tryz.prog.funcNamed "quern/quernlaw04.WalDoes" = some 4 by kernel_rfl).symm.trans hf) |>.symm; obtain rfl : fn = Tryz.f4 := (Option.some.inj (Tryz.func4.symm.trans hfn)).symm; refine ⟨by kernel_rfl, fun j t ht => ?_⟩; have ha : (Tryz.f4.params.toList.all fun t => Tryz.prog.wantsStandIn t == false) = true := (by kernel_rfl); have hm : t ∈ Tryz.f4.params.toList := (by rw [Array.mem_toList_iff]; exact Array.mem_of_getElem? ht); show Tryz.prog.wantsStandIn t = false; simpa using List.all_eq_true.1 ha t hm
theorem proved : Rows.WalDoesUptoCardSaid :=
 Claim7.holds_tied_plain_at .later [] _ _ _ _ said (fun _ h => by cases h) (by kernel_rfl) (fun _ h => by cases h) walDoesUpto_row_tie rfl ⟨rfl, rfl⟩ (by kernel_rfl) rfl plain (by kernel_rfl)
end Go.Proofs.YtnegdinonfjdfaaGreatDoor.rowWalDoes

