/- A part of the proof: Qi. -/
import Derived.Test.YtnegdinonfjdfaaDoorMg2
import Derived.Orders
import Derived.Recover
import Derived.RangeFuncIn
import Derived.RangeFuncLeaves
import Derived.OrdersIn
import Derived.TacticsIn
set_option linter.unusedVariables false
set_option linter.unusedSimpArgs false
namespace Go.Proofs.YtnegdinonfjdfaaDoor.Q
open Go Go.RowKit
inductive VX where
  | normal
  | exit (id : Nat)
  | ret
  | pan (v : V)
inductive VRes where
  | ret (v : V)
  | pan (v : V)
def vyield (ops : Array Oper) (tmps : List V) (j : Nat) : Option Bool :=
  match ((ops[j]?).bind (·.dst)).bind (tmps[·]?) with
  | some (.bool b) => some b
  | _ => none
def vwant (ops : Array Oper) (tmps : List V) (o : Oper) : Bool :=
  match o.guard with
  | none => true
  | some (j, b) => vyield ops tmps j == some b
def vput (tmps : List V) (d : Option Tmp) (v : V) : List V :=
  match d with
  | some d => tmps.set d v
  | none => tmps
structure Prim where
  is : FuncId → Bool
  f : FuncId → List V → St → Option (V × St)
  hot : Oper → Bool := fun _ => false
def markH (hot : Oper → Bool) (o : Oper) : Op := match o.op with
  | .call { callee := .builtin .append, args, argTypes } => if hot o && argTypes.size == 2 then .call { callee := .builtin .append, args := args, argTypes := argTypes.push 0 } else o.op
  | op => op
theorem mark_cases (hot : Oper → Bool) (o : Oper) : markH hot o = o.op ∨ ∃ args t t2, o.op = .call { callee := .builtin .append, args := args, argTypes := #[t, t2] } ∧ markH hot o = .call { callee := .builtin .append, args := args, argTypes := #[t, t2, 0] } := by
  unfold markH
  split
  · rename_i args ts ho
    split
    · rename_i hc
      simp only [Bool.and_eq_true, beq_iff_eq] at hc
      obtain ⟨l⟩ := ts
      match l, hc.2 with
      | [t, t2], _ => exact .inr ⟨args, t, t2, ho, rfl⟩
    · exact .inl rfl
  · rename_i h; exact .inl rfl
theorem mark_cold {hot : Oper → Bool} {o : Oper} (h : hot o = false) : markH hot o = o.op := by
  unfold markH
  split
  · simp [h]
  · rfl
theorem mark_operands (hot : Oper → Bool) (o : Oper) : (markH hot o).operands = o.op.operands := by
  rcases mark_cases hot o with h | ⟨args, t, t2, h1, h2⟩
  · rw [h]
  · rw [h1, h2]; rfl
def fnOk (fn : Func) : Bool := fn.name != "runtime.NumGoroutine"
def vresults (P : Program) (σ : St) (tmps : List V) : List ResultVar → Option (List V)
  | [] => some []
  | .tmp t :: rs => match vresults P σ tmps rs with
    | some vs => some (tmps.getD t (.tuple []) :: vs)
    | none => none
  | .cell a t :: rs => match vload P σ.objs t (tmps.getD a (.tuple [])), vresults P σ tmps rs with
    | some v, some vs => some (v :: vs)
    | _, _ => none
def vtuple : List V → V
  | [v] => v
  | vs => .tuple vs
inductive Out where
  | val (v : V) (σ : St)
  | pan (v : V) (σ : St)
def hopsV (P : Program) (hot : Oper → Bool) (C : Oper → List V → St → Option Out) (ops : Array Oper) : List Oper → List V → St → Option (VX × List V × St)
  | [], tmps, σ => some (.normal, tmps, σ)
  | o :: rest, tmps, σ => if hot o && vwant ops tmps o then (match vhot P tmps σ o.op with
      | some (v, σ') => hopsV P hot C ops rest (vput tmps o.dst v) σ'
      | none => none)
    else match C o tmps σ with
      | some (.val v σ') => hopsV P hot C ops rest (vput tmps o.dst v) σ'
      | some (.pan v σ') => some (.pan v, tmps, σ')
      | none => none
def isEff : Op → Bool
  | .alloc _ | .box .. | .store .. | .makeSlice .. | .panic _ => true
  | .call { callee := .builtin .len, .. } | .call { callee := .builtin .max, .. } | .call { callee := .builtin .min, .. } => false
  | .call _ => true
  | .move _ | .assign _ | .pick .. | .build .. | .buildSlice .. | .load .. | .nilCheck _ | .binOp .. | .unOp .. | .convert .. | .makeInterface .. | .makeFunc .. | .slice .. | .fieldAddr .. | .field .. | .indexAddr .. | .index .. | .extract .. => false
  | _ => true
def isLoad : Op → Bool
  | .load .. => true
  | _ => false
def befs : List Oper → List (List Nat) → List (List Nat)
  | [], acc => acc
  | o :: rest, acc => befs rest (acc ++ [(o.after.toList.filter fun e => Region.binds .any e && decide (e.on < acc.length)).flatMap fun e => e.on :: acc.getD e.on []])
def bms : List Oper → List Nat → List Nat
  | [], acc => acc
  | o :: rest, acc => bms rest (acc ++ [(o.after.toList.filter fun e => Region.binds .any e && decide (e.on < acc.length)).foldl (fun m e => m ||| ((1 <<< e.on) ||| acc.getD e.on 0)) 0])
def looksAt (ops : Array Oper) (o : Oper) : List Tmp := o.looksAt ops
def isAlloc (o : Oper) : Bool := match o.op with
  | .alloc _ => o.guard.isNone
  | _ => false
def pairB (ops : Array Oper) (b : List Nat) (i j : Nat) : Bool :=
  j == i + 1 && (match ops[i]?, ops[j]? with | some o, some p => isAlloc o && isAlloc p | _, _ => false) && (List.range ops.size).all fun k => k == i || k == j || ((b.getD k 0).testBit i == (b.getD k 0).testBit j)
def dStatic (ops : Array Oper) : Bool :=
  let b := bms ops.toList []
  let l := ops.toList.zipIdx
  (l.all fun (o, i) => l.all fun (p, j) => j ≤ i ||
    ((match o.dst with | some d => !(looksAt ops p).contains d && p.dst != some d | none => true) && (match p.dst with | some d => !(looksAt ops o).contains d | none => true)
      && (!(isEff o.op && isEff p.op) || pairB ops b i j)) || (b.getD j 0).testBit i) &&
  (l.all fun (o, i) => o.after.toList.all fun e => !(Region.binds .any e) || decide (e.on < i))
def starts (ops : Array Oper) : List Nat := 0 :: (ops.toList.zipIdx.filterMap fun (o, i) => if isEff o.op then some (i + 1) else none)
def window (ops : Array Oper) (i : Nat) : List Nat :=
  let b := bms ops.toList []
  (starts ops).filter fun j => (ops.toList.zipIdx.all fun (p, k) => !(isEff p.op) || ((!(b.getD i 0).testBit k || k < j) && (!(b.getD k 0).testBit i || j ≤ k)))
def watch (ops : Array Oper) : List (Nat × List Nat) :=
  ops.toList.zipIdx.filterMap fun (o, i) => if isLoad o.op && (window ops i).length > 1 then some (i, window ops i) else none
def lastOk (ops : Array Oper) (i : Nat) : Bool := (List.range ops.size).all fun j => j ≤ i || ((bms ops.toList []).getD j 0).testBit i
mutual
def vbeq : V → V → Bool
  | .bool a, .bool b => a == b
  | .int k a, .int j b => k == j && a == b
  | .str a, .str b => a == b
  | .nilp, .nilp => true
  | .optr a b, .optr c d => a == c && b == d
  | .eptr a b, .eptr c d => vbeqs a c && b == d
  | .nils, .nils => true
  | .slice p a b c, .slice q d e f => (decide (p = q)) && a == d && vbeqs b e && c == f
  | .hslice a b c d, .hslice e f g h => a == e && b == f && c == g && d == h
  | .hfull a b c d, .hfull e f g h => a == e && b == f && c == g && d == h
  | .func a b, .func c d => a == c && vbeqs b d
  | .nilf, .nilf => true
  | .iface a b, .iface c d => a == c && vbeq b d
  | .nili, .nili => true
  | .agg a, .agg b => vbeqs a b
  | .tuple a, .tuple b => vbeqs a b
  | .nilm, .nilm => true
  | .omap a, .omap b => a == b
  | .yld a, .yld b => a == b
  | _, _ => false
def vbeqs : List V → List V → Bool
  | [], [] => true
  | a :: l, b :: m => vbeq a b && vbeqs l m
  | _, _ => false
end
def loadAgain (P : Program) (o : Oper) (tmps : List V) (σ : St) (v : V) : Bool :=
  match vop P tmps σ o.op with
  | some (u, _) => vbeq u v
  | none => false
def stable (P : Program) (ops : Array Oper) (tr : List (List V × St)) : List (Nat × List Nat) → Bool
  | [] => true
  | (i, js) :: rest =>
    (match tr[i]?, ops[i]? with
     | some (tmps, σ), some o => if vwant ops tmps o then
         (match vop P tmps σ o.op with
          | some (v, _) => js.all fun j => match tr[j]? with
            | some (_, σj) => loadAgain P o tmps σj v
            | none => true
          | none => false)
       else true
     | _, _ => true) && stable P ops tr rest
abbrev Ds := List (FuncId × List V)
abbrev RunC := Code → List V → St → Option (VX × List V × St)
abbrev RunO := Array Oper → List Oper → List V → St → Option (VX × List V × St)
abbrev Pn := Option (V × Bool)
def deferOf (o : Oper) : Option (Operand × List Operand) := match o.op, o.guard, o.dst with
  | .defer { callee := .value f, args, argTypes := _ }, none, none => some (f, args.toList)
  | _, _, _ => none
def isRec (o : Oper) : Bool := match o.op, o.guard with
  | .call { callee := .builtin .recover, args := _, argTypes := _ }, none => true
  | _, _ => false
def hasDefer : Code → Bool
  | .region _ ops _ => ops.toList.any fun o => match o.op with
    | .defer _ => true
    | _ => false
  | .seq a b => hasDefer a || hasDefer b
  | .cond _ a b => hasDefer a || hasDefer b
  | .block _ c => hasDefer c
  | .loop c => hasDefer c
  | _ => false
def hasRF : Code → Bool
  | .rangeFunc _ _ _ _ => true
  | .seq a b => hasRF a || hasRF b
  | .cond _ a b => hasRF a || hasRF b
  | .block _ c => hasRF c
  | .loop c => hasRF c
  | _ => false
def lpSet (tm : List V) (ps : Array Tmp) (vs : List V) : List V := (ps.toList.zip vs).foldl (fun t p => t.set p.1 p.2) tm
def lpEnd (r : Nat) (x : VX) (σ : St) : Option (V × St) := match σ.objs[r]? with
  | some (.lpB tm ps asg body) => match x with
    | .normal => some (.bool true, ⟨σ.objs.set r (.lp tm ps asg body), σ.toks⟩)
    | .exit id => some (.bool false, ⟨σ.objs.set r (.lpD (.exit id)), σ.toks⟩)
    | .ret => some (.bool false, ⟨σ.objs.set r (.lpD .ret), σ.toks⟩)
    | .pan _ => none
  | _ => none
def lpOut (r : Nat) (tm : List V) (σ : St) : Option (VX × List V × St) := match σ.objs[r]? with
  | some (.lp _ _ _ _) => some (.normal, tm, ⟨σ.objs.set r .dead, σ.toks⟩)
  | some (.lpD .ret) => some (.ret, tm, ⟨σ.objs.set r .dead, σ.toks⟩)
  | some (.lpD (.exit id)) => some (.exit id, tm, ⟨σ.objs.set r .dead, σ.toks⟩)
  | _ => none
def codeD (E : RunC) (O : RunO) : Code → List V → St → Option (VX × List V × St × Ds)
  | .region i ops false, tmps, σ => match ops.toList.getLast?.bind deferOf with
    | some (f, as_) => match O ops ops.toList.dropLast tmps σ with
      | some (.normal, t, σ') => match evs t f, evAll t as_ with
        | some (.func fid caps), some vs => some (.normal, t, σ', [(fid, vs ++ caps)])
        | _, _ => none
      | some (.pan v, t, σ') => some (.pan v, t, σ', [])
      | _ => none
    | none => (E (.region i ops false) tmps σ).map fun r => (r.1, r.2.1, r.2.2, [])
  | .seq a b, tmps, σ => match codeD E O a tmps σ with
    | some (.normal, t, σ', ds) => (codeD E O b t σ').map fun r => (r.1, r.2.1, r.2.2.1, r.2.2.2 ++ ds)
    | r => r
  | .cond c a b, tmps, σ => match evs tmps c with
    | some (.bool true) => codeD E O a tmps σ
    | some (.bool false) => codeD E O b tmps σ
    | _ => none
  | c, tmps, σ => (E c tmps σ).map fun r => (r.1, r.2.1, r.2.2, [])
def recV : Pn → V × Pn
  | some (v, false) => (v, some (v, true))
  | m => (.nili, m)
def settleV : Pn → Pn
  | some (_, true) => none
  | m => m
def codeS (E : RunC) (O : RunO) : Code → List V → Pn → St → Option (VX × List V × Pn × St)
  | .region i ops false, tmps, m, σ => match ops.toList with
    | o :: rest => if isRec o = true then (O ops rest (vput tmps o.dst (recV m).1) σ).map fun r => (r.1, r.2.1, (recV m).2, r.2.2)
      else (E (.region i ops false) tmps σ).map fun r => (r.1, r.2.1, m, r.2.2)
    | [] => none
  | .seq a b, tmps, m, σ => match codeS E O a tmps m σ with
    | some (.normal, t, m', σ') => codeS E O b t m' σ'
    | r => r
  | .cond c a b, tmps, m, σ => match evs tmps c with
    | some (.bool true) => codeS E O a tmps m σ
    | some (.bool false) => codeS E O b tmps m σ
    | _ => none
  | c, tmps, m, σ => (E c tmps σ).map fun r => (r.1, r.2.1, m, r.2.2)
def ends : VX → Bool
  | .normal => true
  | .ret => true
  | _ => false
def defOne (P : Program) (E : RunC) (O : RunO) (f : FuncId) (vs : List V) (m : Pn) (σ : St) : Option (Pn × St) := match P.funcs[f]? with
  | some fn => match fn.body with
    | some c => if fnOk fn = true then match codeS E O c (vs ++ List.replicate (fn.ntmps - vs.length) (.tuple [])) m σ with
        | some (x, t, m', σ') => if ends x = true then (vresults P σ' t fn.results.toList).map fun _ => (m', σ') else none
        | none => none
      else none
    | none => none
  | none => none
def leaveD (P : Program) (E : RunC) (O : RunO) : Ds → Pn → St → Option (Pn × St)
  | [], m, σ => some (m, σ)
  | (f, vs) :: ds, m, σ => match defOne P E O f vs m σ with
    | some (m', σ') => leaveD P E O ds (settleV m') σ'
    | none => none
def startD : VX → List V → Option Pn
  | .normal, _ => some none
  | .ret, _ => some none
  | .pan v, t => if t.isEmpty = true then none else some (some (v, false))
  | .exit _, _ => none
def callD (P : Program) (E : RunC) (O : RunO) (fn : Func) (c : Code) (tmps : List V) (σ : St) : Option (VRes × St) := match codeD E O c tmps σ with
  | some (x, t, σ1, ds) => match startD x t with
    | some m => match leaveD P E O ds m σ1 with
      | some (none, σ2) => (vresults P σ2 t fn.results.toList).map fun rs => (.ret (vtuple rs), σ2)
      | some (some (v, false), σ2) => some (.pan v, σ2)
      | _ => none
    | none => none
  | none => none
mutual
def vcore (P : Program) (pr : Prim) : Nat → Array Oper → Oper → List V → St → Option Out
  | 0, _, _, _, _ => none
  | n + 1, ops, o, tmps, σ =>
    if vwant ops tmps o then
      match o.op with
      | .call { callee := .value f, args, argTypes := _ } => match evs tmps f, evAll tmps args.toList with
        | some (.func fid caps), some vs => match vcall P pr n fid (vs ++ caps) σ with
          | some (.ret v, σ') => some (.val v σ')
          | some (.pan v, σ') => some (.pan v σ')
          | none => none
        | some (.yld r), some vs => match vround P pr n r vs σ with
          | some (v, σ') => some (.val v σ')
          | none => none
        | _, _ => none
      | .panic x => match evs tmps x with
        | some (.iface t v) => some (.pan (.iface t v) σ)
        | _ => none
      | _ => match vop P tmps σ (markH pr.hot o) with
        | some (v, σ') => some (.val v σ')
        | none => none
    else some (.val (.tuple []) σ)
def vops (P : Program) (pr : Prim) : Nat → Array Oper → List Oper → List V → St → Option (VX × List V × St)
  | 0, _, _, _, _ => none
  | n + 1, _, [], tmps, σ => some (.normal, tmps, σ)
  | n + 1, ops, o :: rest, tmps, σ =>
    match vcore P pr n ops o tmps σ with
    | some (.val v σ') => vops P pr n ops rest (vput tmps o.dst v) σ'
    | some (.pan v σ') => some (.pan v, tmps, σ')
    | none => none
def vtrace (P : Program) (pr : Prim) : Nat → Array Oper → List Oper → List V → St → List (List V × St)
  | 0, _, _, _, _ => []
  | n + 1, _, [], tmps, σ => [(tmps, σ)]
  | n + 1, ops, o :: rest, tmps, σ =>
    (tmps, σ) :: (match vcore P pr n ops o tmps σ with
    | some (.val v σ') => vtrace P pr n ops rest (vput tmps o.dst v) σ'
    | _ => [])
def vexec (P : Program) (pr : Prim) : Nat → Code → List V → St → Option (VX × List V × St)
  | 0, _, _, _ => none
  | n + 1, .skip, tmps, σ => some (.normal, tmps, σ)
  | n + 1, .label _, tmps, σ => some (.normal, tmps, σ)
  | n + 1, .exit id, tmps, σ => some (.exit id, tmps, σ)
  | n + 1, .ret, tmps, σ => some (.ret, tmps, σ)
  | n + 1, .region _ ops false, tmps, σ => if ops.toList.any pr.hot then hopsV P pr.hot (fun o t s => vcore P pr n ops o t s) ops ops.toList tmps σ else vops P pr n ops ops.toList tmps σ
  | n + 1, .region _ ops true, tmps, σ =>
    if P.follows .mixedOrders && dStatic ops && stable P ops (vtrace P pr n ops ops.toList tmps σ) (watch ops) then
      match vops P pr n ops ops.toList tmps σ with
      | some (.normal, tmps', σ') => some (.normal, tmps', σ')
      | some (.pan v, _, σ') => if lastOk ops ((vtrace P pr n ops ops.toList tmps σ).length - 1) then some (.pan v, [], σ') else none
      | _ => none
    else none
  | n + 1, .seq a b, tmps, σ => match vexec P pr n a tmps σ with
    | some (.normal, tmps', σ') => vexec P pr n b tmps' σ'
    | r => r
  | n + 1, .cond c a b, tmps, σ => match evs tmps c with
    | some (.bool t) => vexec P pr n (if t then a else b) tmps σ
    | _ => none
  | n + 1, .block id c, tmps, σ => match vexec P pr n c tmps σ with
    | some (.exit id', tmps', σ') => some (if id' = id then .normal else .exit id', tmps', σ')
    | r => r
  | n + 1, .loop c, tmps, σ => match vexec P pr n c tmps σ with
    | some (.normal, tmps', σ') => vexec P pr n (.loop c) tmps' σ'
    | r => r
  | n + 1, .rangeFunc f ps asg body, tmps, σ => match evs tmps f with
    | some (.func fid caps) => match vcall P pr n fid (.yld σ.objs.length :: caps) ⟨σ.objs ++ [.lp tmps ps asg body], σ.toks⟩ with
      | some (.ret _, σ') => lpOut σ.objs.length tmps σ'
      | _ => none
    | _ => none
  | _ + 1, _, _, _ => none
def vround (P : Program) (pr : Prim) : Nat → Nat → List V → St → Option (V × St)
  | 0, _, _, _ => none
  | n + 1, r, vs, σ => match σ.objs[r]? with
    | some (.lp tm ps asg body) => if vs.length = ps.size ∧ hasRF asg = false ∧ hasRF body = false then
        match vexec P pr n asg (lpSet tm ps vs) σ with
        | some (.normal, t1, σ1) => match σ1.objs[r]? with
          | some (.lp tm2 ps2 asg2 body2) => match vexec P pr n body t1 ⟨σ1.objs.set r (.lpB tm2 ps2 asg2 body2), σ1.toks⟩ with
            | some (x, _, σ2) => lpEnd r x σ2
            | none => none
          | _ => none
        | _ => none
      else none
    | _ => none
def vcall (P : Program) (pr : Prim) : Nat → FuncId → List V → St → Option (VRes × St)
  | 0, _, _, _ => none
  | n + 1, f, vs, σ =>
    if pr.is f then (pr.f f vs σ).map fun r => (.ret r.1, r.2) else
    match P.funcs[f]? with
    | some fn => match fn.body with
      | some c =>
        if fnOk fn then
          if hasDefer c then callD P (fun c t s => if hasRF c then none else vexec P pr n c t s) (fun o l t s => vops P pr n o l t s) fn c (vs ++ List.replicate (fn.ntmps - vs.length) (.tuple [])) σ else
          match vexec P pr n c (vs ++ List.replicate (fn.ntmps - vs.length) (.tuple [])) σ with
          | some (.normal, tmps, σ') => (vresults P σ' tmps fn.results.toList).map fun rs => (.ret (vtuple rs), σ')
          | some (.ret, tmps, σ') => (vresults P σ' tmps fn.results.toList).map fun rs => (.ret (vtuple rs), σ')
          | some (.pan v, _, σ') => some (.pan v, σ')
          | _ => none
        else none
      | none => none
    | none => none
end
section
variable {P : Program} {pr : Prim} {base : Nat} {w0 : World}
def XOk (g : Gh) (toks : List Bool) (w : World) : VX → Exit → Prop
  | .normal, e => e = .normal
  | .exit id, e => e = .exit id
  | .ret, e => e = .ret
  | .pan v, e => ∃ u, e = .panic [{ v := u, recovered := false }] ∧ VR g toks w v u
def Post (base : Nat) (w0 : World) (g : Gh) (σ : St) (w : World) (a : Act) (x : VX) (tmps' : List V) (σ' : St) (e : Exit) (a' : Act) (w' : World) : Prop :=
  ∃ g', Ext g σ.toks w g' σ'.toks w' ∧ Rel base w0 g' σ' w' ∧ XOk g' σ'.toks w' x e ∧ ((∃ v, x = .pan v ∧ tmps' = []) ∨ VRs g' σ'.toks w' tmps' a'.tmps.toList) ∧ a'.defers = a.defers
def EOk (g : Gh) (toks : List Bool) (w : World) : VRes → Ending → Prop
  | .ret v, e => ∃ u, e = .returned u ∧ VR g toks w v u
  | .pan v, e => ∃ u, e = .panicked [{ v := u, recovered := false }] ∧ VR g toks w v u
def CallOk (P : Program) (base : Nat) (w0 : World) (f : FuncId) (vs : List V) (σ : St) (r : VRes) (σ' : St) : Prop :=
  ∀ (g : Gh) (w : World) (us : List Value), Rel base w0 g σ w → VRs g σ.toks w vs us → Calls P f us.toArray w fun e w' => ∃ g', Ext g σ.toks w g' σ'.toks w' ∧ Rel base w0 g' σ' w' ∧ EOk g' σ'.toks w' r e
def RoundOk (P : Program) (base : Nat) (w0 : World) (r : Nat) (vs : List V) (σ : St) (v : V) (σ' : St) : Prop :=
  ∀ (g : Gh) (w : World) (us : List Value), Rel base w0 g σ w → VRs g σ.toks w vs us → ∃ (fn : Nat) (tmps : Array Value) (asg body : Code), (Instr.yield (g.ρ r) us.toArray).run P w = .ok (.round (g.ρ r) fn tmps asg body) w ∧
    RoundIn Fence.wide 0 P (g.ρ r) fn tmps asg body w fun e w' => ∃ g' u, e = .returned u ∧ Ext g σ.toks w g' σ'.toks w' ∧ Rel base w0 g' σ' w' ∧ VR g' σ'.toks w' v u
structure CR (P : Program) (pr : Prim) (base : Nat) (w0 : World) (n : Nat) : Prop where
  call : ∀ (f : FuncId) (vs : List V) (σ : St) (r : VRes) (σ' : St), vcall P pr n f vs σ = some (r, σ') → CallOk P base w0 f vs σ r σ'
  round : ∀ (r : Nat) (vs : List V) (σ : St) (v : V) (σ' : St), vround P pr n r vs σ = some (v, σ') → RoundOk P base w0 r vs σ v σ'
def PrimOk (P : Program) (pr : Prim) (base : Nat) (w0 : World) : Prop := ∀ f vs σ v σ', pr.is f = true → pr.f f vs σ = some (v, σ') →
  CallOk P base w0 f vs σ (.ret v) σ' ∧ ∃ fn, P.funcs[f]? = some fn ∧ fnOk fn = true ∧ fn.body.isSome = true
theorem vyield_ok {g : Gh} {toks : List Bool} {w : World} {tmps : List V} {us : Array Value} (h : VRs g toks w tmps us.toList) (ops : Array Oper) (j : Nat) : vyield ops tmps j = yielded ops us j := by
  unfold vyield yielded
  cases hd : (ops[j]?).bind (·.dst) with
  | none => rfl
  | some t =>
    simp only [Option.bind_some]
    cases hv : tmps[t]? with
    | none =>
      have : us[t]? = none := by
        rw [← Array.getElem?_toList, List.getElem?_eq_none_iff, ← h.length]
        exact List.getElem?_eq_none_iff.1 hv
      rw [this]
    | some v =>
      obtain ⟨u, hu, hr⟩ := h.get t hv
      rw [Array.getElem?_toList] at hu
      rw [hu]
      cases u with
      | bool b =>
        have : v = .bool b := by cases v <;> simp [VR] at hr ⊢; exact hr.symm
        subst this
        rfl
      | _ => cases v <;> first | rfl | (simp [VR] at hr)
theorem vwant_ok {g : Gh} {toks : List Bool} {w : World} {tmps : List V} {us : Array Value} (h : VRs g toks w tmps us.toList) (ops : Array Oper) (o : Oper) : vwant ops tmps o = Region.wanted o (yielded ops us) := by
  unfold vwant Region.wanted
  split
  · rename_i e; rw [e]
  · rename_i j b e; rw [e]; simp only; rw [vyield_ok h ops j]
theorem vput_ok {g : Gh} {toks : List Bool} {w : World} {tmps : List V} {a : Act} (h : VRs g toks w tmps a.tmps.toList) {v : V} {u : Value} (hv : VR g toks w v u) (d : Option Tmp) : VRs g toks w (vput tmps d v) (a.put d u).tmps.toList := by
  cases d with
  | none => exact h
  | some d => simpa [vput, Act.put] using VRs.set h d hv
theorem put_defers' (a : Act) (d : Option Tmp) (u : Value) : (a.put d u).defers = a.defers := by cases d <;> rfl
theorem exec_yield {a : Act} {w : World} {o : Oper} {f : Operand} {args : Array Operand} {ts : Array TypeId} (ho : o.op = .call { callee := .value f, args := args, argTypes := ts }) {l : Nat} (hf : a.eval f = .func (.yield l) #[] #[]) :
    (execOp a.eval o).run P w = (Instr.yield l (args.map a.eval)).run P w := by
  simp [execOp, ho, resolve, hf, Deferred.ofValue, invoke]
theorem exec_call {a : Act} {w : World} {o : Oper} {f : Operand} {args : Array Operand} {ts : Array TypeId} (ho : o.op = .call { callee := .value f, args := args, argTypes := ts }) {fid : FuncId} {caps : Array Value} (hf : a.eval f = .func (.func fid) #[] caps) {fn : Func}
    (hfn : P.funcs[fid]? = some fn) (hn : fnOk fn = true) (hb : fn.body.isSome = true) : (execOp a.eval o).run P w = .ok (.enter fid (args.map a.eval ++ caps)) w := by
  have hn' : ¬ (fn.name = "runtime.NumGoroutine") := by simpa [fnOk] using hn
  obtain ⟨c, hc⟩ := Option.isSome_iff_exists.1 hb
  simp [execOp, ho, resolve, hf, Deferred.ofValue, invoke, callFunc, hfn, hn', hc]
theorem CallOk.fn {base : Nat} {w0 : World} (hp : PrimOk P pr base w0) {n : Nat} {f : FuncId} {vs : List V} {σ : St} {r : VRes × St} (h : vcall P pr n f vs σ = some r) : ∃ fn, P.funcs[f]? = some fn ∧ fnOk fn = true ∧ fn.body.isSome = true := by
  cases n with
  | zero => simp [vcall] at h
  | succ n =>
    simp only [vcall] at h
    split at h
    · rename_i hi
      rw [gA1] at h
      obtain ⟨q, hq, _⟩ := h
      exact (hp f vs σ q.1 q.2 hi hq).2
    · split at h
      · rename_i fn hfn
        split at h
        · rename_i c hc
          split at h
          · rename_i hn
            exact ⟨fn, hfn, hn, by rw [hc]; rfl⟩
          · cases h
        · cases h
      · cases h
def resF (us : Array Value) (r : ResultVar) : Sem Value :=
  match r with
  | .tmp t => pure (us.getD t undef)
  | .cell a t => do loadVar t (← asAddr (us.getD a undef))
theorem vresults_ok {g : Gh} {σ : St} {w : World} (h : Rel base w0 g σ w) {tmps : List V} {us : Array Value} (ht : VRs g σ.toks w tmps us.toList) : ∀ {rs : List ResultVar} {vs : List V}, vresults P σ tmps rs = some vs →
    ∃ xs, VRs g σ.toks w vs xs ∧ (rs.mapM (resF us)).run P w = .ok xs w
  | [], vs, hv => by
    simp only [vresults] at hv; injection hv with hv; subst hv
    exact ⟨[], by simp [VRs], by simp⟩
  | .tmp t :: rs, vs, hv => by
    simp only [vresults] at hv
    split at hv
    · rename_i vs' h1
      injection hv with hv; subst hv
      obtain ⟨xs, hx, hr⟩ := vresults_ok h ht h1
      refine ⟨us.getD t undef :: xs, ?_, by rw [List.mapM_cons]; simp only [Sem.run_bind, resF, Sem.run_pure, Result.andThen_ok]; rw [show (rs.mapM (resF us)).run P w = .ok xs w from hr]; rfl⟩
      simp only [VRs]
      refine ⟨_, _, rfl, ?_, hx⟩
      have := ht.getD t
      simpa [gA6, Array.getD_eq_getD_getElem?] using this
    · cases hv
  | .cell a t :: rs, vs, hv => by
    simp only [vresults] at hv
    split at hv
    · rename_i v vs' h0 h1
      injection hv with hv; subst hv
      obtain ⟨xs, hx, hr⟩ := vresults_ok h ht h1
      have hA : VR g σ.toks w (tmps.getD a (.tuple [])) (us.getD a undef) := by
        have := ht.getD a
        simpa [gA6, Array.getD_eq_getD_getElem?] using this
      obtain ⟨u, hu, hV⟩ := vload_ok (P := P) h hA h0
      have hptr : ∃ ad, us.getD a undef = .pointer (some ad) := by
        unfold vload at h0
        split at h0
        · rename_i cs off hc
          obtain ⟨b, o, us', he, _⟩ := vcellsAt_ok h hA hc
          exact ⟨_, he⟩
        · cases h0
      obtain ⟨ad, had⟩ := hptr
      rw [had] at hu
      simp only [Instr.loadAt, Instr.sureAddr, Sem.run_bind, Sem.run_pure, Result.andThen_ok] at hu
      exact ⟨u :: xs, by simp only [VRs]; exact ⟨_, _, rfl, hV, hx⟩, by rw [List.mapM_cons]; simp only [Sem.run_bind, resF, had, asAddr, Sem.run_pure, Result.andThen_ok, hu]; rw [show (rs.mapM (resF us)).run P w = .ok xs w from hr]; rfl⟩
    · cases hv
theorem vtuple_ok {g : Gh} {toks : List Bool} {w : World} {vs : List V} {xs : List Value} (h : VRs g toks w vs xs) : VR g toks w (vtuple vs) (if h : xs.toArray.size = 1 then xs.toArray[0] else .tuple xs.toArray) := by
  cases vs with
  | nil => simp only [VRs] at h; subst h; simp [vtuple, VR, VRs]
  | cons v vs =>
    simp only [VRs] at h
    obtain ⟨u, us, rfl, h1, h2⟩ := h
    cases vs with
    | nil =>
      simp only [VRs] at h2; subst h2
      simpa [vtuple] using h1
    | cons v2 vs =>
      simp only [VRs] at h2
      obtain ⟨u2, us2, rfl, h3, h4⟩ := h2
      have : vtuple (v :: v2 :: vs) = .tuple (v :: v2 :: vs) := rfl
      rw [this, dif_neg (by simp)]
      simp only [VR]
      exact ⟨_, rfl, by simp only [VRs]; exact ⟨_, _, rfl, h1, _, _, rfl, h3, h4⟩⟩
theorem Rel.calls {n : Nat} {g : Gh} {σ : St} {w : World} (h : Rel base w0 g σ w) : True := trivial
def Fr (ro : Option Nat) : Fence := { Fence.wide with round := ro }
theorem fr_room (ro : Option Nat) (n : Nat) : (Fr ro).room n := fun _ h => by simp [Fr, Fence.wide] at h
theorem callsIn_fr {ro : Option Nat} {n : Nat} {f : FuncId} {args : Array Value} {w : World} {R : Ending → World → Prop} : CallsIn (Fr ro) n P f args w R ↔ Calls P f args w R := (callsIn_wide (n := n))
theorem stepsIn_fr {ro : Option Nat} {m m' : Machine} : StepsIn (Machine.fenced P (Fr ro)) P m m' ↔ Steps P m m' := stepsIn_wide
theorem wpIn_fr {c : Code} {Q : Exit → Act → World → Prop} {a : Act} {w : World} : c.wpIn (Fr none) 0 P Q a w ↔ c.wp P Q a w := wpIn_wide
def LoopWp (ro : Option Nat) (P : Program) (c : Code) (Q : Exit → Act → World → Prop) (a : Act) (w : World) : Prop :=
  ∀ (b : Frame) (k : List Item) (cs : List Frame), b.roundOf = ro → ∃ e a' w', Q e a' w' ∧ ArrivesIn (Machine.fenced P (Fr ro)) P (lone (b.atR a (.code c :: .inLoop c :: k)) cs w) b k cs e a' w'
theorem LoopWp.wp {ro : Option Nat} {c : Code} {Q : Exit → Act → World → Prop} {a : Act} {w : World} (h : LoopWp ro P c Q a w) : (Code.loop c).wpIn (Fr ro) 0 P Q a w :=
  fun b k cs hro _ _ => let ⟨e, a', w', q, r⟩ := h b k cs hro; ⟨e, a', w', q, .of_steps (stepsIn_fr.2 (.one stepR_loop)) r⟩
theorem LoopWp.round {ro : Option Nat} {c : Code} {Q : Exit → Act → World → Prop} {a : Act} {w : World} (h : c.wpIn (Fr ro) 0 P (Exit.then (LoopWp ro P c Q) Q) a w) : LoopWp ro P c Q a w := by
  intro b k cs hro
  obtain ⟨e, a1, w1, hq, harr⟩ := h b (.inLoop c :: k) cs hro trivial (fr_room _ _)
  cases e with
  | normal =>
    obtain ⟨e2, a2, w2, hq2, harr2⟩ := hq b k cs hro
    exact ⟨e2, a2, w2, hq2, .of_steps (StepsIn.trans harr (stepsIn_fr.2 (.one stepR_inLoop))) harr2⟩
  | exit id => exact ⟨_, a1, w1, hq, .pass (x := .inLoop c) rfl (fun _ _ => .inl (by simp)) harr⟩
  | goto l => exact ⟨_, a1, w1, hq, .pass (x := .inLoop c) rfl (fun _ _ => .inl (by simp)) harr⟩
  | ret => exact ⟨_, a1, w1, hq, .pass (x := .inLoop c) rfl (fun _ _ => .inl (by simp)) harr⟩
  | panic ch => exact ⟨_, a1, w1, hq, .pass (x := .inLoop c) rfl (fun _ _ => .inl (by simp)) harr⟩
  | outgrown => exact ⟨_, a1, w1, hq, .pass (x := .inLoop c) rfl (fun _ _ => .inl (by simp)) harr⟩
theorem Post.trans {g g1 : Gh} {σ σ1 σ' : St} {w w1 : World} {a a1 : Act} {x : VX} {tmps' : List V} {e : Exit} {a' : Act} {w' : World} (hE : Ext g σ.toks w g1 σ1.toks w1) (hd : a1.defers = a.defers)
    (h : Post base w0 g1 σ1 w1 a1 x tmps' σ' e a' w') : Post base w0 g σ w a x tmps' σ' e a' w' := by
  obtain ⟨g', h1, h2, h3, h4, h5⟩ := h
  exact ⟨g', hE.trans h1, h2, h3, h4, h5.trans hd⟩
def wpOper (ro : Option Nat) (P : Program) (ops : Array Oper) (Q : Exit → Act → World → Prop) (o : Oper) (K : Act → World → Prop) (a : Act) (w : World) : Prop :=
  if Region.wanted o (yielded ops a.tmps) then o.wpIn (Fr ro) 0 P a w K Q else (∀ f, o.about P w a.eval = some f → (Fr ro).fn f) ∧ K (a.put o.dst undef) w
theorem wpOper_run {ro : Option Nat} {ops : Array Oper} {Q : Exit → Act → World → Prop} {o : Oper} {K : Act → World → Prop} {a : Act} {w : World} {r : Result Next} (hw : Region.wanted o (yielded ops a.tmps) = true) (hd : ∀ c, o.op ≠ .defer c)
    (hrun : (execOp a.eval o).run P w = r) (h : o.uponIn (Fr ro) 0 P a K Q r) : wpOper ro P ops Q o K a w := by
  unfold wpOper
  rw [if_pos hw]
  unfold Oper.wpIn
  rw [Oper.semAt_eq _ _ _ hd, hrun]
  exact ⟨fun _ _ => trivial, h⟩
theorem vop_defer {tmps : List V} {σ : St} {o : Oper} {r : V × St} (h : vop P tmps σ o.op = some r) : ∀ c, o.op ≠ .defer c := by
  intro c hc
  rw [hc] at h
  simp [vop] at h
theorem vopM_defer {tmps : List V} {σ : St} {hot : Oper → Bool} {o : Oper} {r : V × St} (h : vop P tmps σ (markH hot o) = some r) : ∀ c, o.op ≠ .defer c := by
  rcases mark_cases hot o with h1 | ⟨args, t, t2, h1, h2⟩
  · rw [h1] at h; exact vop_defer h
  · intro c h3; rw [h1] at h3; cases h3
theorem vopM_ok {g : Gh} {σ : St} {w : World} (h : Rel base w0 g σ w) {a : Act} {tmps : List V} (ht : VRs g σ.toks w tmps a.tmps.toList) {hot : Oper → Bool} {o : Oper} {v : V} {σ' : St} (hv : vop P tmps σ (markH hot o) = some (v, σ')) : OOk P base w0 g σ w (execOp a.eval o) v σ' := by
  rcases mark_cases hot o with h1 | ⟨args, t, t2, h1, h2⟩
  · rw [h1] at hv; exact vop_ok h ht hv
  · rw [h2] at hv
    have := vop_ok (o := { o with op := .call { callee := .builtin .append, args := args, argTypes := #[t, t2, 0] } }) h ht hv
    have he : execOp a.eval { o with op := .call { callee := .builtin .append, args := args, argTypes := #[t, t2, 0] } } = execOp a.eval o := by
      obtain ⟨d, op, ty, po, af, gu⟩ := o
      simp only at h1
      subst h1
      simp [execOp, resolve, invoke, builtin, append_mark]
    rw [he] at this
    exact this
def OutOk (P : Program) (base : Nat) (w0 : World) (ops : Array Oper) (o : Oper) (tmps : List V) (σ : St) : Out → Prop
  | .val v σ' => ∀ (g : Gh) (w : World) (a : Act), Rel base w0 g σ w → VRs g σ.toks w tmps a.tmps.toList → ∀ (Q : Exit → Act → World → Prop) (K : Act → World → Prop),
      (∀ g' w' u, Ext g σ.toks w g' σ'.toks w' → Rel base w0 g' σ' w' → VR g' σ'.toks w' v u → K (a.put o.dst u) w') → ∀ ro, wpOper ro P ops Q o K a w
  | .pan v σ' => ∀ (g : Gh) (w : World) (a : Act), Rel base w0 g σ w → VRs g σ.toks w tmps a.tmps.toList → ∀ (Q : Exit → Act → World → Prop) (K : Act → World → Prop),
      (∀ g' w' u, Ext g σ.toks w g' σ'.toks w' → Rel base w0 g' σ' w' → VR g' σ'.toks w' v u → Q (.panic [{ v := u, recovered := false }]) a w') → ∀ ro, wpOper ro P ops Q o K a w
theorem core_ok (hp : PrimOk P pr base w0) {n : Nat} (ih3 : CR P pr base w0 n) {ops : Array Oper} {o : Oper} {tmps : List V} {σ : St} {out : Out}
    (h : vcore P pr (n + 1) ops o tmps σ = some out) : OutOk P base w0 ops o tmps σ out := by
  simp only [vcore] at h
  split at h
  · rename_i hwt
    split at h
    · rename_i f args ts ho
      split at h
      · rename_i fid caps vs hf hvs
        have common : ∀ {r : VRes} {σ1 : St}, vcall P pr n fid (vs ++ caps) σ = some (r, σ1) → ∀ (g : Gh) (w : World) (a : Act), Rel base w0 g σ w → VRs g σ.toks w tmps a.tmps.toList → ∀ (Q : Exit → Act → World → Prop) (K : Act → World → Prop),
            (∀ e w1 g', Ext g σ.toks w g' σ1.toks w1 → Rel base w0 g' σ1 w1 → EOk g' σ1.toks w1 r e → match e with | .returned v => K (a.put o.dst v) w1 | .panicked chain => Q (.panic chain) a w1 | .outgrown => LetsOut Q) → ∀ ro, wpOper ro P ops Q o K a w := by
          intro r σ1 hc g w a hR hT Q K hK
          obtain ⟨fn, hfn, hnn, hbb⟩ := CallOk.fn hp hc
          have hF := evs_ok hT hf
          simp only [VR] at hF
          obtain ⟨cus, hF, hcaps⟩ := hF
          have hrun := exec_call (P := P) (w := w) ho hF hfn hnn hbb
          have hargs : VRs g σ.toks w (vs ++ caps) (args.toList.map a.eval ++ cus) := (evAll_ok hT hvs).append hcaps
          have hC := ih3.call _ _ _ _ _ hc g w _ hR hargs
          have he : (args.toList.map a.eval ++ cus).toArray = args.map a.eval ++ cus.toArray := by apply Array.ext'; simp
          rw [he] at hC
          intro ro
          refine wpOper_run (by rw [← vwant_ok hT ops o]; exact hwt) (fun c hc' => by rw [ho] at hc'; cases hc') hrun ⟨fun h9 => by simp [Fr, Fence.wide] at h9, callsIn_fr.2 (hC.mono fun e w1 hpost => ?_)⟩
          obtain ⟨g1, hE, hR1, hO⟩ := hpost
          have := hK e w1 g1 hE hR1 hO
          cases e <;> exact this
        split at h
        · rename_i v σ1 hc
          injection h with h; subst h
          intro g w a hR hT Q K hK
          refine common hc g w a hR hT Q K fun e w1 g' hE hR1 hO => ?_
          obtain ⟨u, rfl, hV⟩ := hO
          exact hK g' w1 u hE hR1 hV
        · rename_i v σ1 hc
          injection h with h; subst h
          intro g w a hR hT Q K hK
          refine common hc g w a hR hT Q K fun e w1 g' hE hR1 hO => ?_
          obtain ⟨u, rfl, hV⟩ := hO
          exact hK g' w1 u hE hR1 hV
        · cases h
      · rename_i r vs hf hvs
        split at h
        · rename_i v σ1 hc
          injection h with h; subst h
          intro g w a hR hT Q K hK ro
          have hF := evs_ok hT hf
          simp only [VR] at hF
          obtain ⟨hrh, hF⟩ := hF
          obtain ⟨fn, tms, asg, body, hy, hro⟩ := ih3.round _ _ _ _ _ hc g w _ hR (evAll_ok hT hvs)
          have he : (args.toList.map a.eval).toArray = args.map a.eval := by apply Array.ext'; simp
          rw [he] at hy
          refine wpOper_run (by rw [← vwant_ok hT ops o]; exact hwt) (fun c hc' => by rw [ho] at hc'; cases hc') ((exec_yield ho hF).trans hy) ⟨fun h9 => by simp [Fr, Fence.wide] at h9, RoundIn.mono (F := Fr ro) (n := 0) hro fun e w1 hpost => ?_⟩
          obtain ⟨g', u, rfl, hE, hR1, hV⟩ := hpost
          exact hK g' w1 u hE hR1 hV
        · cases h
      · cases h
    · rename_i y ho
      split at h
      · rename_i t v hy
        injection h with h; subst h
        intro g w a hR hT Q K hK
        have hV := evs_ok hT hy
        have hV2 := hV
        simp only [VR] at hV2
        obtain ⟨u, hu, _⟩ := hV2
        intro ro
        have hrun : (execOp a.eval o).run P w = .halt (.panic (a.eval y)) w := by simp [execOp, ho, hu, Instr.panic, goPanic, Sem.run]
        exact wpOper_run (by rw [← vwant_ok hT ops o]; exact hwt) (fun c hc' => by rw [ho] at hc'; cases hc') hrun <| hK g w _ (Ext.refl _ _ _) hR hV
      · cases h
    · split at h
      · rename_i v σ1 hv
        injection h with h; subst h
        intro g w a hR hT Q K hK
        obtain ⟨nx, u, w1, g1, hrun, hnx, hE, hR1, hV⟩ := vopM_ok (o := o) hR hT hv
        intro ro
        refine wpOper_run (by rw [← vwant_ok hT ops o]; exact hwt) (vopM_defer hv) hrun ?_
        rcases hnx with rfl | ⟨rfl, rfl⟩
        · exact hK g1 w1 u hE hR1 hV
        · exact hK g1 w1 undef hE hR1 hV
      · cases h
  · rename_i hwt
    injection h with h; subst h
    intro g w a hR hT Q K hK
    intro ro
    unfold wpOper
    rw [if_neg (by rw [← vwant_ok hT ops o]; exact hwt)]
    refine ⟨fun _ _ => trivial, ?_⟩
    exact hK g w undef (Ext.refl _ _ _) hR undef_ok
theorem evs_congr {t1 t2 : List V} {x : Operand} (h : ∀ t, x = .tmp t → t1[t]? = t2[t]?) : evs t1 x = evs t2 x := by
  cases x with
  | tmp t => simp only [evs, gA6, h t rfl]
  | _ => rfl
theorem evAll_congr {t1 t2 : List V} : ∀ {xs : List Operand}, (∀ t, .tmp t ∈ xs → t1[t]? = t2[t]?) → evAll t1 xs = evAll t2 xs
  | [], _ => rfl
  | x :: xs, h => by
    simp only [evAll]
    rw [evs_congr (fun t e => h t (by rw [e]; exact List.mem_cons_self ..)), evAll_congr (fun t ht => h t (List.mem_cons_of_mem _ ht))]
theorem evParts_congr {t1 t2 : List V} : ∀ {xs : List (Nat × Operand)}, (∀ t, .tmp t ∈ xs.map (·.2) → t1[t]? = t2[t]?) → evParts t1 xs = evParts t2 xs
  | [], _ => rfl
  | (i, x) :: xs, h => by
    simp only [evParts]
    rw [evs_congr (fun t e => h t (by rw [← e]; exact List.mem_cons_self ..)), evParts_congr (fun t ht => h t (List.mem_cons_of_mem _ ht))]
theorem evOpt_congr {t1 t2 : List V} {x : Option Operand} (h : ∀ t, x = some (.tmp t) → t1[t]? = t2[t]?) : evOpt t1 x = evOpt t2 x := by
  cases x with
  | none => rfl
  | some x => simp only [evOpt]; rw [evs_congr (fun t e => h t (by rw [e]))]
theorem vop_congr {t1 t2 : List V} {σ : St} {o : Op} (h : ∀ t, .tmp t ∈ o.operands → t1[t]? = t2[t]?) : vop P t1 σ o = vop P t2 σ o := by
  have one : ∀ x, x ∈ o.operands → evs t1 x = evs t2 x := fun x hx => evs_congr fun t e => h t (by rw [← e]; exact hx)
  cases o <;> simp only [vop] <;> simp only [Op.operands] at h one <;> (try rfl)
  case pick c a b =>
    rw [one c (by simp)]
    split
    · rename_i t _
      cases t
      · simp [one b (by simp)]
      · simp [one a (by simp)]
    · rfl
  case build t ps => rw [evParts_congr fun t ht => h t (by simpa using ht)]
  case buildSlice t n ps => rw [evParts_congr fun t ht => h t (by simpa using ht)]
  case makeFunc fn first caps =>
    cases fn <;> simp only <;> (try rfl)
    rw [evAll_congr fun t ht => h t (by simp; right; simpa using ht)]
  case slice t x lo hi mx =>
    rw [one x (by simp), evOpt_congr (x := lo) fun t e => h t (by subst e; simp), evOpt_congr (x := hi) fun t e => h t (by subst e; simp), evOpt_congr (x := mx) fun t e => h t (by subst e; simp)]
  case call c =>
    obtain ⟨ce, args, ts⟩ := c
    cases ce <;> simp only [vop] <;> (try rfl)
    rw [evAll_congr fun t ht => h t (by simp [Call.operands]; simpa using ht)]
  case makeMap t r => cases r <;> rfl
  case insert t m k x => rw [one m (by simp), one k (by simp), one x (by simp)]
  case mapUpdate t m k x => rw [one m (by simp), one k (by simp), one x (by simp)]
  case lookup t x i ok => rw [one x (by simp), one i (by simp)]
  all_goals first
    | (rw [one _ (by simp)]; done)
    | (rename_i x y; rw [one x (by simp), one y (by simp)]; done)
    | (rename_i x y _; rw [one x (by simp), one y (by simp)]; done)
    | (rename_i x y _ _; rw [one x (by simp), one y (by simp)]; done)
theorem looks_op {ops : Array Oper} {o : Oper} {t : Tmp} (h : .tmp t ∈ o.op.operands) : t ∈ looksAt ops o := by
  unfold looksAt Oper.looksAt
  exact List.mem_append_left _ (List.mem_filterMap.2 ⟨.tmp t, by simpa using h, rfl⟩)
theorem vwant_congr {t1 t2 : List V} {ops : Array Oper} {o : Oper} (h : ∀ t, t ∈ looksAt ops o → t1[t]? = t2[t]?) : vwant ops t1 o = vwant ops t2 o := by
  unfold vwant
  split
  · rfl
  · rename_i j b hg
    unfold vyield
    cases hd : (ops[j]?).bind (·.dst) with
    | none => rfl
    | some t =>
      simp only [Option.bind_some]
      rw [h t (by unfold looksAt Oper.looksAt; rw [hg]; simp [hd])]
theorem vcore_congr {t1 t2 : List V} {σ : St} {ops : Array Oper} {o : Oper} (h : ∀ t, t ∈ looksAt ops o → t1[t]? = t2[t]?) (n : Nat) : vcore P pr n ops o t1 σ = vcore P pr n ops o t2 σ := by
  have hop : ∀ t, .tmp t ∈ o.op.operands → t1[t]? = t2[t]? := fun t ht => h t (looks_op ht)
  cases n with
  | zero => simp [vcore]
  | succ n =>
    simp only [vcore]
    rw [vwant_congr h]
    split
    · split
      · rename_i f args ts ho
        rw [ho] at hop
        simp only [Op.operands, Call.operands] at hop
        rw [evs_congr (x := f) fun t e => hop t (by subst e; simp), evAll_congr (xs := args.toList) fun t ht => hop t (by simp; right; simpa using ht)]
      · rename_i x ho
        rw [ho] at hop
        rw [evs_congr (x := x) fun t e => hop t (by subst e; simp [Op.operands])]
      · rw [vop_congr (o := markH pr.hot o) (by rw [mark_operands]; exact hop)]
    · rfl
theorem trace_spec : ∀ (n : Nat) {ops : Array Oper} {l : List Oper} {tmps : List V} {σ : St} {x : VX} {tmps' : List V} {σ' : St}, vops P pr n ops l tmps σ = some (x, tmps', σ') →
    ∃ s, (vtrace P pr n ops l tmps σ).length = s + 1 ∧ s ≤ l.length ∧ (vtrace P pr n ops l tmps σ)[0]? = some (tmps, σ) ∧
      (∀ k, k < s → ∃ o m v T S1 S2, l[k]? = some o ∧ m < n ∧ (vtrace P pr n ops l tmps σ)[k]? = some (T, S1) ∧ vcore P pr m ops o T S1 = some (.val v S2) ∧ (vtrace P pr n ops l tmps σ)[k + 1]? = some (vput T o.dst v, S2)) ∧
      ((x = .normal ∧ s = l.length ∧ (vtrace P pr n ops l tmps σ)[s]? = some (tmps', σ')) ∨
       (∃ v o m T S1, x = .pan v ∧ m < n ∧ l[s]? = some o ∧ (vtrace P pr n ops l tmps σ)[s]? = some (T, S1) ∧ vcore P pr m ops o T S1 = some (.pan v σ')))
  | 0, ops, l, tmps, σ, x, tmps', σ', h => by simp [vops] at h
  | n + 1, ops, [], tmps, σ, x, tmps', σ', h => by
    simp only [vops] at h
    injection h with h
    injection h with h1 h2
    injection h2 with h2 h3
    subst h1 h2 h3
    exact ⟨0, by simp [vtrace], Nat.le_refl _, by simp [vtrace], fun k hk => by omega, .inl ⟨rfl, rfl, by simp [vtrace]⟩⟩
  | n + 1, ops, o :: rest, tmps, σ, x, tmps', σ', h => by
    simp only [vops] at h
    split at h
    · rename_i v σ1 hc
      obtain ⟨s, h1, h2, h3, h4, h5⟩ := trace_spec n h
      have ht : vtrace P pr (n + 1) ops (o :: rest) tmps σ = (tmps, σ) :: vtrace P pr n ops rest (vput tmps o.dst v) σ1 := by simp only [vtrace]; rw [hc]
      rw [ht]
      refine ⟨s + 1, by simp [h1], by simpa using h2, rfl, fun k hk => ?_, ?_⟩
      · cases k with
        | zero => exact ⟨o, n, v, tmps, σ, σ1, rfl, by omega, rfl, hc, by simpa using h3⟩
        | succ k =>
          obtain ⟨o', m, v', T, S1, S2, g1, g2, g3, g4, g5⟩ := h4 k (by omega)
          exact ⟨o', m, v', T, S1, S2, by simpa using g1, by omega, by simpa using g3, g4, by simpa using g5⟩
      · rcases h5 with ⟨e1, e2, e3⟩ | ⟨v', o', m, T, S1, e1, e2, e3, e4, e5⟩
        · exact .inl ⟨e1, by simp [e2], by simpa using e3⟩
        · exact .inr ⟨v', o', m, T, S1, e1, by omega, by simpa using e3, by simpa using e4, e5⟩
    · rename_i v σ1 hc
      injection h with h
      injection h with h1 h2
      injection h2 with h2 h3
      subst h1 h2 h3
      have ht : vtrace P pr (n + 1) ops (o :: rest) tmps σ = [(tmps, σ)] := by simp only [vtrace]; rw [hc]
      rw [ht]
      exact ⟨0, rfl, Nat.zero_le _, rfl, fun k hk => by omega, .inr ⟨v, o, n, tmps, σ, rfl, by omega, rfl, rfl, hc⟩⟩
    · cases h
theorem flatMap_congr' {α β : Type} {l : List α} {f g : α → List β} (h : ∀ a, a ∈ l → f a = g a) : l.flatMap f = l.flatMap g := by
  rw [List.flatMap_def, List.flatMap_def, List.map_congr_left h]
theorem befs_spec : ∀ (l : List Oper) (acc : List (List Nat)), acc.length ≤ (befs l acc).length ∧ (∀ i, i < acc.length → (befs l acc)[i]? = acc[i]?) ∧
    ∀ k o, l[k]? = some o → (befs l acc)[acc.length + k]? = some ((o.after.toList.filter fun e => Region.binds .any e && decide (e.on < acc.length + k)).flatMap fun e => e.on :: (befs l acc).getD e.on [])
  | [], acc => ⟨Nat.le_refl _, fun _ _ => rfl, fun k o h => by simp at h⟩
  | o :: rest, acc => by
    obtain ⟨h1, h2, h3⟩ := befs_spec rest (acc ++ [(o.after.toList.filter fun e => Region.binds .any e && decide (e.on < acc.length)).flatMap fun e => e.on :: acc.getD e.on []])
    simp only [List.length_append, List.length_singleton] at h1 h2 h3
    have he : befs (o :: rest) acc = befs rest (acc ++ [(o.after.toList.filter fun e => Region.binds .any e && decide (e.on < acc.length)).flatMap fun e => e.on :: acc.getD e.on []]) := rfl
    rw [he]
    refine ⟨by omega, fun i hi => ?_, fun k p hp => ?_⟩
    · rw [h2 i (by omega), gA2 hi]
    · cases k with
      | zero =>
        simp at hp
        subst hp
        rw [Nat.add_zero, h2 acc.length (by omega)]
        rw [gA4 (Nat.le_refl _)]
        simp only [Nat.sub_self, List.getElem?_cons_zero]
        congr 1
        apply flatMap_congr'
        intro e hmem
        rw [List.mem_filter] at hmem
        simp only [Bool.and_eq_true, decide_eq_true_eq] at hmem
        congr 1
        rw [gA6, gA6, h2 e.on (by omega), gA2 hmem.2.2]
      | succ k =>
        have := h3 k p (by simpa using hp)
        rw [show acc.length + 1 + k = acc.length + (k + 1) from by omega] at this
        exact this
theorem bms_one {acc : List Nat} {bcc : List (List Nat)} (h : ∀ i j, (acc.getD i 0).testBit j = (bcc.getD i []).contains j) (j : Nat) : ∀ (l : List Edge) (m : Nat) (x : List Nat), m.testBit j = x.contains j → (l.foldl (fun m e => m ||| ((1 <<< e.on) ||| acc.getD e.on 0)) m).testBit j = (x ++ l.flatMap fun e => e.on :: bcc.getD e.on []).contains j
  | [], m, x, hm => by simpa using hm
  | e :: l, m, x, hm => by
    rw [List.foldl_cons, List.flatMap_cons, ← List.append_assoc]
    apply bms_one h j l
    rw [Nat.testBit_or, Nat.testBit_or, h, hm, Nat.testBit_shiftLeft]
    simp only [List.contains_eq_mem, List.mem_append, List.mem_cons]
    by_cases h1 : j = e.on
    · subst h1; simp
    · have : (decide (j ≥ e.on) && Nat.testBit 1 (j - e.on)) = false := by
        rcases Nat.lt_or_ge j e.on with h2 | h2
        · simp; omega
        · have h3 : j - e.on ≠ 0 := by omega
          have : Nat.testBit 1 (j - e.on) = false := by
            cases hb : Nat.testBit 1 (j - e.on) with
            | false => rfl
            | true => exact absurd (Nat.testBit_one_eq_true_iff_self_eq_zero.1 hb) h3
          rw [this, Bool.and_false]
      rw [this]
      simp [h1]
theorem bms_spec : ∀ (l : List Oper) (acc : List Nat) (bcc : List (List Nat)), acc.length = bcc.length → (∀ i j, (acc.getD i 0).testBit j = (bcc.getD i []).contains j) → ∀ i j, ((bms l acc).getD i 0).testBit j = ((befs l bcc).getD i []).contains j
  | [], acc, bcc, _, h => h
  | o :: rest, acc, bcc, hl, h => by
    intro i j
    rw [bms, befs]
    refine bms_spec rest _ _ (by simp [hl]) ?_ i j
    intro i j
    rcases Nat.lt_trichotomy i acc.length with h1 | h1 | h1
    · have := h i j
      rw [gA6, gA6] at this ⊢
      rw [gA2 h1, gA2 (by omega)]
      exact this
    · subst h1
      rw [gA6, gA6, gA4 (Nat.le_refl _), gA4 (by omega), hl, Nat.sub_self]
      simp only [List.getElem?_cons_zero, Option.getD_some]
      have := bms_one h j (o.after.toList.filter fun e => Region.binds .any e && decide (e.on < bcc.length)) 0 [] (by simp)
      simpa using this
    · rw [gA6, gA6, List.getElem?_eq_none (by simp; omega), List.getElem?_eq_none (by simp; omega)]
      simp
theorem bms_eq (ops : Array Oper) (i j : Nat) : ((bms ops.toList []).getD i 0).testBit j = ((befs ops.toList []).getD i []).contains j :=
  bms_spec ops.toList [] [] rfl (fun i j => by simp) i j
def bef (ops : Array Oper) (i : Nat) : List Nat := (befs ops.toList []).getD i []
theorem bef_eq {ops : Array Oper} {i : Nat} {o : Oper} (h : ops[i]? = some o) : bef ops i = (o.after.toList.filter fun e => Region.binds .any e && decide (e.on < i)).flatMap fun e => e.on :: bef ops e.on := by
  have := (befs_spec ops.toList []).2.2 i o (by simpa using h)
  simp only [List.length_nil, Nat.zero_add] at this
  unfold bef
  rw [gA6, this]
  rfl
theorem bef_lt {ops : Array Oper} : ∀ (i j : Nat), j ∈ bef ops i → j < i := by
  intro i
  induction i using Nat.strongRecOn with
  | _ i ih =>
    intro j hj
    cases ho : ops[i]? with
    | none =>
      unfold bef at hj
      have hl : (befs ops.toList [])[i]? = none := by
        have key : ∀ (l : List Oper) (acc : List (List Nat)), (befs l acc).length = acc.length + l.length := by
          intro l
          induction l with
          | nil => intro acc; rfl
          | cons o l ihl => intro acc; show (befs l _).length = _; rw [ihl]; simp; omega
        rw [List.getElem?_eq_none_iff, key]
        simpa using Array.getElem?_eq_none_iff.1 ho
      rw [gA6, hl] at hj
      simp at hj
    | some o =>
      rw [bef_eq ho, List.mem_flatMap] at hj
      obtain ⟨e, he, hj⟩ := hj
      rw [List.mem_filter] at he
      simp only [Bool.and_eq_true, decide_eq_true_eq] at he
      cases hj with
      | head => exact he.2.2
      | tail _ hj => have := ih e.on he.2.2 j hj; omega
structure PairA (ops : Array Oper) (i j : Nat) : Prop where
  next : j = i + 1
  fst : ∃ o, ops[i]? = some o ∧ isAlloc o = true
  snd : ∃ o, ops[j]? = some o ∧ isAlloc o = true
  both : ∀ k, k < ops.size → k ≠ i → k ≠ j → (i ∈ bef ops k ↔ j ∈ bef ops k)
structure DS (ops : Array Oper) : Prop where
  slots : ∀ i j o p, ops[i]? = some o → ops[j]? = some p → i < j → ¬ (i ∈ bef ops j) → (∀ d, o.dst = some d → d ∉ looksAt ops p ∧ p.dst ≠ some d) ∧ (∀ d, p.dst = some d → d ∉ looksAt ops o) ∧ (isEff o.op = true ∧ isEff p.op = true → PairA ops i j)
  back : ∀ i o, ops[i]? = some o → ∀ e ∈ o.after, Region.binds .any e = true → e.on < i
theorem dStatic_spec {ops : Array Oper} (h : dStatic ops = true) : DS ops := by
  unfold dStatic at h
  simp only [bms_eq] at h
  simp only [Bool.and_eq_true] at h
  obtain ⟨h1, h2⟩ := h
  have mem : ∀ i o, ops[i]? = some o → (o, i) ∈ ops.toList.zipIdx := fun i o ho => by
    rw [List.mem_zipIdx_iff_getElem?]
    simpa using ho
  constructor
  · intro i j o p ho hp hij hb
    have := List.all_eq_true.1 (List.all_eq_true.1 h1 (o, i) (mem i o ho)) (p, j) (mem j p hp)
    simp only [Bool.or_eq_true, decide_eq_true_eq, Bool.and_eq_true] at this
    rcases this with (h9 | h9) | h9
    · omega
    · obtain ⟨⟨a, b⟩, c⟩ := h9
      refine ⟨fun d hd => ?_, fun d hd => ?_, ?_⟩
      · rw [hd] at a
        simp at a
        exact ⟨a.1, a.2⟩
      · rw [hd] at b
        simpa using b
      · rintro ⟨e1, e2⟩
        rw [e1, e2] at c
        simp only [Bool.and_self, Bool.not_true, Bool.false_or] at c
        rcases c with c | c
        · cases c
        · unfold pairB at c
          simp only [Bool.and_eq_true, beq_iff_eq, bms_eq] at c
          obtain ⟨⟨c1, c2⟩, c3⟩ := c
          rw [ho, hp] at c2
          simp only [Bool.and_eq_true] at c2
          refine ⟨c1, ⟨o, ho, c2.1⟩, ⟨p, hp, c2.2⟩, fun k hk h1 h2 => ?_⟩
          have := List.all_eq_true.1 c3 k (List.mem_range.2 hk)
          simp only [Bool.or_eq_true, beq_iff_eq] at this
          rcases this with (h3 | h3) | h3
          · exact absurd h3 h1
          · exact absurd h3 h2
          · unfold bef
            rw [← List.contains_iff_mem, ← List.contains_iff_mem, h3]
    · exact absurd (by simpa [bef] using h9) hb
  · intro i o ho e he hb
    have := List.all_eq_true.1 (List.all_eq_true.1 h2 (o, i) (mem i o ho)) e (by simpa using he)
    simpa [hb] using this
mutual
theorem vbeq_ok : ∀ (a b : V), vbeq a b = true → a = b
  | .bool a, b, h => by cases b <;> simp [vbeq] at h; rw [h]
  | .int k a, b, h => by cases b <;> simp [vbeq] at h; rw [h.1, h.2]
  | .str a, b, h => by cases b <;> simp [vbeq] at h; rw [h]
  | .nilp, b, h => by cases b <;> simp [vbeq] at h; rfl
  | .optr a c, b, h => by cases b <;> simp [vbeq] at h; rw [h.1, h.2]
  | .eptr a c, b, h => by cases b <;> simp [vbeq] at h; rw [vbeqs_ok a _ h.1, h.2]
  | .nils, b, h => by cases b <;> simp [vbeq] at h; rfl
  | .slice p a c d, b, h => by cases b <;> simp [vbeq] at h; rw [h.1.1.1, h.1.1.2, vbeqs_ok c _ h.1.2, h.2]
  | .hslice a c d e, b, h => by cases b <;> simp [vbeq] at h; rw [h.1.1.1, h.1.1.2, h.1.2, h.2]
  | .hfull a c d e, b, h => by cases b <;> simp [vbeq] at h; rw [h.1.1.1, h.1.1.2, h.1.2, h.2]
  | .func a c, b, h => by cases b <;> simp [vbeq] at h; rw [h.1, vbeqs_ok c _ h.2]
  | .nilf, b, h => by cases b <;> simp [vbeq] at h; rfl
  | .iface a c, b, h => by cases b <;> simp [vbeq] at h; rw [h.1, vbeq_ok c _ h.2]
  | .nili, b, h => by cases b <;> simp [vbeq] at h; rfl
  | .agg a, b, h => by cases b <;> simp [vbeq] at h; rw [vbeqs_ok a _ h]
  | .tuple a, b, h => by cases b <;> simp [vbeq] at h; rw [vbeqs_ok a _ h]
  | .nilm, b, h => by cases b <;> simp [vbeq] at h; rfl
  | .omap a, b, h => by cases b <;> simp [vbeq] at h; rw [h]
  | .yld a, b, h => by cases b <;> simp [vbeq] at h; rw [h]
theorem vbeqs_ok : ∀ (a b : List V), vbeqs a b = true → a = b
  | [], b, h => by cases b <;> simp [vbeqs] at h; rfl
  | a :: l, b, h => by cases b <;> simp [vbeqs] at h; rw [vbeq_ok a _ h.1, vbeqs_ok l _ h.2]
end
mutual
theorem vbeq_self : ∀ (a : V), vbeq a a = true
  | .bool a => by simp [vbeq]
  | .int k a => by simp [vbeq]
  | .str a => by simp [vbeq]
  | .nilp => by simp [vbeq]
  | .optr a c => by simp [vbeq]
  | .eptr a c => by simp [vbeq, vbeqs_self a]
  | .nils => by simp [vbeq]
  | .slice p a c d => by simp [vbeq, vbeqs_self c]
  | .hslice a c d e => by simp [vbeq]
  | .hfull a c d e => by simp [vbeq]
  | .func a c => by simp [vbeq, vbeqs_self c]
  | .nilf => by simp [vbeq]
  | .iface a c => by simp [vbeq, vbeq_self c]
  | .nili => by simp [vbeq]
  | .agg a => by simp [vbeq, vbeqs_self a]
  | .tuple a => by simp [vbeq, vbeqs_self a]
  | .nilm => by simp [vbeq]
  | .omap a => by simp [vbeq]
  | .yld a => by simp [vbeq]
theorem vbeqs_self : ∀ (a : List V), vbeqs a a = true
  | [] => by simp [vbeqs]
  | a :: l => by simp [vbeqs, vbeq_self a, vbeqs_self l]
end
theorem mem_starts {ops : Array Oper} {j : Nat} : j ∈ starts ops ↔ j = 0 ∨ ∃ k o, ops[k]? = some o ∧ isEff o.op = true ∧ j = k + 1 := by
  unfold starts
  rw [List.mem_cons, List.mem_filterMap]
  constructor
  · rintro (h | ⟨⟨o, k⟩, h1, h2⟩)
    · exact .inl h
    · rw [List.mem_zipIdx_iff_getElem?] at h1
      simp only [Array.getElem?_toList] at h1
      simp only at h2
      split at h2
      · rename_i he
        injection h2 with h2
        exact .inr ⟨k, o, by simpa using h1, he, h2.symm⟩
      · cases h2
  · rintro (h | ⟨k, o, h1, h2, h3⟩)
    · exact .inl h
    · exact .inr ⟨(o, k), by rw [List.mem_zipIdx_iff_getElem?]; simpa using h1, by simp [h2, h3]⟩
theorem mem_window {ops : Array Oper} {i j : Nat} : j ∈ window ops i ↔ j ∈ starts ops ∧ ∀ k o, ops[k]? = some o → isEff o.op = true → (k ∈ bef ops i → k < j) ∧ (i ∈ bef ops k → j ≤ k) := by
  unfold window
  simp only [bms_eq]
  rw [List.mem_filter]
  refine and_congr_right fun _ => ?_
  rw [List.all_eq_true]
  constructor
  · intro h k o ho he
    have := h (o, k) (by rw [List.mem_zipIdx_iff_getElem?]; simpa using ho)
    simp only [he, Bool.not_true, Bool.false_or, Bool.and_eq_true, Bool.or_eq_true, decide_eq_true_eq] at this
    refine ⟨fun hk => ?_, fun hk => ?_⟩
    · rcases this.1 with h1 | h1
      · simp at h1; exact absurd hk h1
      · exact h1
    · rcases this.2 with h1 | h1
      · simp at h1; exact absurd hk h1
      · exact h1
  · rintro h ⟨o, k⟩ hmem
    rw [List.mem_zipIdx_iff_getElem?] at hmem
    simp only
    cases he : isEff o.op with
    | false => simp
    | true =>
      obtain ⟨h1, h2⟩ := h k o (by simpa using hmem) he
      simp only [Bool.not_true, Bool.false_or, Bool.and_eq_true, Bool.or_eq_true, decide_eq_true_eq]
      refine ⟨?_, ?_⟩
      · by_cases hk : k ∈ bef ops i
        · exact .inr (h1 hk)
        · left; simpa [bef] using hk
      · by_cases hk : i ∈ bef ops k
        · exact .inr (h2 hk)
        · left; simpa [bef] using hk
theorem watch_spec {ops : Array Oper} {i : Nat} {o : Oper} (ho : ops[i]? = some o) (hl : isLoad o.op = true) (hw : 1 < (window ops i).length) : (i, window ops i) ∈ watch ops := by
  unfold watch
  rw [List.mem_filterMap]
  exact ⟨(o, i), by rw [List.mem_zipIdx_iff_getElem?]; simpa using ho, by simp [hl, hw]⟩
theorem stable_spec {P : Program} {ops : Array Oper} {tr : List (List V × St)} : ∀ {ws : List (Nat × List Nat)}, stable P ops tr ws = true → ∀ i js, (i, js) ∈ ws → ∀ tmps σ o, tr[i]? = some (tmps, σ) → ops[i]? = some o → vwant ops tmps o = true →
    ∃ v σ', vop P tmps σ o.op = some (v, σ') ∧ ∀ j, j ∈ js → ∀ Tj Sj, tr[j]? = some (Tj, Sj) → loadAgain P o tmps Sj v = true
  | [], _, i, js, h, _, _, _, _, _, _ => by cases h
  | (i', js') :: rest, hs, i, js, h, tmps, σ, o, h1, h2, h3 => by
    simp only [stable, Bool.and_eq_true] at hs
    rcases List.mem_cons.1 h with e | h
    · injection e with e1 e2
      subst e1 e2
      have := hs.1
      rw [h1, h2] at this
      simp only [h3, if_true] at this
      split at this
      · rename_i v σ' hv
        refine ⟨v, σ', hv, fun j hj Tj Sj hTj => ?_⟩
        have := List.all_eq_true.1 this j hj
        rw [hTj] at this
        exact this
      · cases this
    · exact stable_spec hs.2 i js h tmps σ o h1 h2 h3
theorem vop_quiet {P : Program} {tmps : List V} {σ S : St} {o : Op} {u : V} {S1 : St} (he : isEff o = false) (hv : vop P tmps σ o = some (u, S1)) : S1 = σ ∧ (isLoad o = false → vop P tmps S o = some (u, S)) := by
  have m : ∀ {z : Option V}, z.map (·, σ) = some (u, S1) → S1 = σ ∧ z.map (·, S) = some (u, S) := by
    intro z hz
    cases z with
    | none => simp at hz
    | some z => simp at hz; simp [hz.1, hz.2]
  cases o <;> simp only [isEff, Bool.true_eq_false] at he <;> simp only [vop] at hv ⊢
  case call c =>
    obtain ⟨ce, args, ts⟩ := c
    cases ce with
    | builtin b =>
      simp only [vop] at hv ⊢
      have hb : b = .len ∨ b = .max ∨ b = .min := by cases b <;> first | (simp; done) | exact (Bool.noConfusion (show true = false from he))
      split at hv
      · unfold vbuiltin at hv ⊢
        rcases hb with rfl | rfl | rfl
        all_goals
          split at hv
          all_goals first
            | exact ⟨(m hv).1, fun _ => (m hv).2⟩
            | (cases hv; done)
            | (rename_i e; cases e; done)
            | (rename_i e _; cases e; done)
            | (rename_i e _ _; cases e; done)
            | contradiction
      · cases hv
    | value f => simp [isEff] at he
    | invoke a b => simp [isEff] at he
  all_goals first
    | exact ⟨(m hv).1, fun _ => (m hv).2⟩
    | (split at hv
       · exact ⟨(m hv).1, fun _ => (m hv).2⟩
       · cases hv)
    | (split at hv
       · exact ⟨(m hv).1, fun h => by cases h⟩
       · cases hv)
    | (cases hv; done)
    | skip
  case makeFunc fn first caps =>
    cases fn <;> simp only at hv ⊢ <;> (try (cases hv; done))
    split at hv
    · rename_i hf
      rw [if_pos hf]
      cases hvs : evAll tmps caps.toList with
      | none => rw [hvs] at hv; cases hv
      | some vs =>
        rw [hvs] at hv
        simp only [Option.map_some, Option.some.injEq, Prod.mk.injEq] at hv ⊢
        exact ⟨hv.2.symm, fun _ => ⟨hv.1, trivial⟩⟩
    · cases hv
  case slice =>
    split at hv
    · cases hv
    · split at hv
      · exact ⟨(m hv).1, fun _ => (m hv).2⟩
      · cases hv
  case convert =>
    split at hv
    · split at hv
      · injection hv with hv
        injection hv with h1 h2
        subst h1 h2
        exact ⟨rfl, fun _ => rfl⟩
      · split at hv
        · rename_i hs
          rw [if_pos hs]
          exact ⟨(m hv).1, fun _ => (m hv).2⟩
        · cases hv
    · cases hv
theorem mark_quiet {hot : Oper → Bool} {o : Oper} (he : isEff o.op = false) : markH hot o = o.op := by
  rcases mark_cases hot o with h | ⟨args, t, t2, h1, h2⟩
  · exact h
  · rw [h1] at he; cases he
theorem quiet_any {P : Program} {pr : Prim} {n : Nat} {ops : Array Oper} {o : Oper} {tmps : List V} {σ S : St} {out : Out} (he : isEff o.op = false) (h : vcore P pr n ops o tmps σ = some out) :
    ∃ v, out = .val v σ ∧ ((isLoad o.op = false ∨ vwant ops tmps o = false) → vcore P pr n ops o tmps S = some (.val v S)) ∧
      (vwant ops tmps o = true → vop P tmps σ o.op = some (v, σ) ∧ ∀ S', vop P tmps S o.op = some (v, S') → vcore P pr n ops o tmps S = some (.val v S')) := by
  cases n with
  | zero => simp [vcore] at h
  | succ n =>
    simp only [vcore] at h ⊢
    split at h
    · rename_i hw
      simp only [hw, if_true, Bool.true_eq_false, or_false, true_implies]
      split at h
      · rename_i ho; rw [ho] at he; simp [isEff] at he
      · rename_i ho; rw [ho] at he; simp [isEff] at he
      · rename_i hne1 hne2
        rw [mark_quiet he] at h ⊢
        split at h
        · rename_i u S1 hv
          injection h with h
          have key := vop_quiet (S := S) he hv
          obtain ⟨k1, k2⟩ := key
          subst k1
          refine ⟨u, h.symm, fun hl => ?_, hv, fun S' hS' => ?_⟩
          · rw [k2 hl]
          · rw [hS']
        · cases h
    · rename_i hw
      injection h with h
      refine ⟨_, h.symm, fun _ => by rw [if_neg hw], fun hw' => absurd hw' hw⟩
structure Tr (P : Program) (pr : Prim) (n : Nat) (ops : Array Oper) (x : VX) (tmps' : List V) (σ' : St) (s : Nat) (T : Nat → List V) (S : Nat → St) : Prop where
  le : s ≤ ops.size
  step : ∀ k, k < s → ∃ o m v, ops[k]? = some o ∧ m < n ∧ vcore P pr m ops o (T k) (S k) = some (.val v (S (k + 1))) ∧ T (k + 1) = vput (T k) o.dst v
  fin : (x = .normal ∧ s = ops.size ∧ T s = tmps' ∧ S s = σ') ∨ (∃ v o m, x = .pan v ∧ m < n ∧ ops[s]? = some o ∧ lastOk ops s = true ∧ vcore P pr m ops o (T s) (S s) = some (.pan v σ'))
  again : ∀ i o, i ≤ s → ops[i]? = some o → isLoad o.op = true → 1 < (window ops i).length → vwant ops (T i) o = true → ∃ v S', vop P (T i) (S i) o.op = some (v, S') ∧ ∀ j, j ≤ s → j ∈ window ops i → loadAgain P o (T i) (S j) v = true
theorem Tr.len {n : Nat} {ops : Array Oper} {x : VX} {tmps' : List V} {σ' : St} {s : Nat} {T : Nat → List V} {S : Nat → St} (h : Tr P pr n ops x tmps' σ' s T S) : ∀ k, k ≤ s → (T k).length = (T 0).length
  | 0, _ => rfl
  | k + 1, hk => by
    obtain ⟨o, m, v, _, _, _, e⟩ := h.step k (by omega)
    rw [e, ← Tr.len h k (by omega)]
    cases o.dst <;> simp [vput]
theorem Tr.same {n : Nat} {ops : Array Oper} {x : VX} {tmps' : List V} {σ' : St} {s : Nat} {T : Nat → List V} {S : Nat → St} (h : Tr P pr n ops x tmps' σ' s T S) {p : Nat} : ∀ {i : Nat}, p ≤ i → i ≤ s → (∀ k o, p ≤ k → k < i → ops[k]? = some o → isEff o.op = false) → S i = S p
  | 0, hp, _, _ => by rw [Nat.le_zero.1 hp]
  | i + 1, hp, hi, hq => by
    rcases Nat.lt_or_ge i p with hlt | hge
    · rw [show i + 1 = p from by omega]
    · rw [← Tr.same h hge (by omega) (fun k o h1 h2 h3 => hq k o h1 (by omega) h3)]
      obtain ⟨o, m, v, ho, _, hc, _⟩ := h.step i (by omega)
      obtain ⟨v', e, _⟩ := quiet_any (S := S i) (hq i o hge (by omega) ho) hc
      injection e
theorem Tr.slot {n : Nat} {ops : Array Oper} {x : VX} {tmps' : List V} {σ' : St} {s : Nat} {T : Nat → List V} {S : Nat → St} (h : Tr P pr n ops x tmps' σ' s T S) {p t : Nat} : ∀ {i : Nat}, p ≤ i → i ≤ s → (∀ k o, p ≤ k → k < i → ops[k]? = some o → o.dst ≠ some t) → (T i)[t]? = (T p)[t]?
  | 0, hp, _, _ => by rw [Nat.le_zero.1 hp]
  | i + 1, hp, hi, hq => by
    rcases Nat.lt_or_ge i p with hlt | hge
    · rw [show i + 1 = p from by omega]
    · rw [← Tr.slot h hge (by omega) (fun k o h1 h2 h3 => hq k o h1 (by omega) h3)]
      obtain ⟨o, m, v, ho, _, _, e⟩ := h.step i (by omega)
      have := hq i o hge (by omega) ho
      rw [e]
      cases hd : o.dst with
      | none => rfl
      | some d =>
        rw [hd] at this
        simp only [vput]
        rw [gA3 (fun e => this (by rw [e]))]
theorem countP_lt' {p q : Nat → Bool} (hpq : ∀ j, p j = true → q j = true) {i : Nat} (hp : p i = false) (hq : q i = true) : ∀ {l : List Nat}, i ∈ l → l.countP p < l.countP q
  | [], h => by cases h
  | a :: l, h => by
    have hle : l.countP p ≤ l.countP q := List.countP_mono_left fun j _ hj => hpq j hj
    rcases List.mem_cons.1 h with e | h
    · subst e
      rw [List.countP_cons, List.countP_cons, hp, hq]
      simp
      omega
    · have := countP_lt' hpq hp hq h
      rw [List.countP_cons, List.countP_cons]
      cases hpa : p a with
      | false => simp; omega
      | true => rw [hpq a hpa]; simp; omega
theorem only_one {l : List Nat} (h : ¬ 1 < l.length) {a b : Nat} (ha : a ∈ l) (hb : b ∈ l) : a = b := by
  match l, h, ha, hb with
  | [], _, ha, _ => cases ha
  | [x], _, ha, hb => simp at ha hb; rw [ha, hb]
  | x :: y :: l, h, _, _ => simp at h
theorem canon (ops : Array Oper) : ∀ i, i ≤ ops.size → ∃ c, c ∈ starts ops ∧ c ≤ i ∧ ∀ k o, c ≤ k → k < i → ops[k]? = some o → isEff o.op = false
  | 0, _ => ⟨0, mem_starts.2 (.inl rfl), Nat.le_refl _, fun k o h1 h2 => by omega⟩
  | i + 1, hi => by
    obtain ⟨o, ho⟩ : ∃ o, ops[i]? = some o := ⟨ops[i]'(by omega), Array.getElem?_eq_getElem (by omega)⟩
    cases he : isEff o.op with
    | true => exact ⟨i + 1, mem_starts.2 (.inr ⟨i, o, ho, he, rfl⟩), Nat.le_refl _, fun k o h1 h2 => by omega⟩
    | false =>
      obtain ⟨c, h1, h2, h3⟩ := canon ops i (by omega)
      refine ⟨c, h1, by omega, fun k p h4 h5 h6 => ?_⟩
      rcases Nat.lt_or_ge k i with h7 | h7
      · exact h3 k p h4 h7 h6
      · rw [show k = i from by omega, ho] at h6; injection h6 with h6; rw [← h6]; exact he
def isL (listed : Array Bool) (i : Nat) : Prop := listed.getD i false = true
theorem mark_quiet' {hot : Oper → Bool} {o : Oper} {t : TypeId} (ho : o.op = .alloc t) : markH hot o = .alloc t := by
  unfold markH; rw [ho]
theorem vcore_alloc {P : Program} {pr : Prim} {m : Nat} {ops : Array Oper} {o : Oper} {tm : List V} {σ : St} {v : V} {σ' : St} (ha : isAlloc o = true) (h : vcore P pr m ops o tm σ = some (.val v σ')) :
    ∃ t z ob, o.op = .alloc t ∧ zeroT P t = some z ∧ (ob = .cells (vcells z) ∨ ob = .tcells t (vcells z)) ∧ v = .optr σ.objs.length 0 ∧ σ' = ⟨σ.objs ++ [ob], σ.toks⟩ ∧ (∀ tm2 τ, vcore P pr m ops o tm2 τ = some (.val (.optr τ.objs.length 0) ⟨τ.objs ++ [ob], τ.toks⟩)) ∧ ∀ us, Region.wanted o (yielded ops us) = true := by
  unfold isAlloc at ha
  split at ha
  · rename_i t ho
    have hg : o.guard = none := by simpa using ha
    have hw : ∀ tm2, vwant ops tm2 o = true := fun tm2 => by simp [vwant, hg]
    cases m with
    | zero => simp [vcore] at h
    | succ m =>
      have e : ∀ tm2 τ, vcore P pr (m + 1) ops o tm2 τ = match valloc P τ t with | some (v, σ') => some (.val v σ') | none => none := by
        intro tm2 τ
        have hm : markH pr.hot o = .alloc t := by rw [mark_quiet' ho]
        rw [vcore, if_pos (hw tm2)]
        simp only [ho, hm, vop]
      rw [e] at h
      split at h
      · rename_i v' s' hv
        injection h with h
        injection h with h1 h2
        subst h1 h2
        obtain ⟨z, ob, hz, h1, h2, h3, h4⟩ := valloc_any hv
        exact ⟨t, z, ob, ho, hz, h3, h1, h2, fun tm2 τ => by rw [e, h4], fun us => by simp [Region.wanted, hg]⟩
      · cases h
  · cases ha
theorem vcore_alloc_pan {P : Program} {pr : Prim} {m : Nat} {ops : Array Oper} {o : Oper} {tm : List V} {σ : St} {v : V} {σ' : St} (ha : isAlloc o = true) (h : vcore P pr m ops o tm σ = some (.pan v σ')) : False := by
  unfold isAlloc at ha
  split at ha
  · rename_i t ho
    cases m with
    | zero => simp [vcore] at h
    | succ m =>
      rw [vcore, ho] at h
      split at h
      · simp only at h
        split at h <;> cases h
      · cases h
  · cases ha
theorem isAlloc_eff {o : Oper} (h : isAlloc o = true) : isEff o.op = true := by
  unfold isAlloc at h
  split at h
  · rename_i t ho; rw [ho]; rfl
  · cases h
theorem vcore_ext {P : Program} {pr : Prim} {n : Nat} {ops : Array Oper} {o : Oper} {tmps : List V} {σ : St} {v : V} (he : isEff o.op = false) (h : vcore P pr n ops o tmps σ = some (.val v σ)) (xs : List Ob) : vcore P pr n ops o tmps ⟨σ.objs ++ xs, σ.toks⟩ = some (.val v ⟨σ.objs ++ xs, σ.toks⟩) := by
  obtain ⟨v', e1, e2, e3⟩ := quiet_any (S := ⟨σ.objs ++ xs, σ.toks⟩) he h
  injection e1 with e1 _
  subst e1
  cases hw : vwant ops tmps o with
  | false => exact e2 (.inr hw)
  | true =>
    cases hl : isLoad o.op with
    | false => exact e2 (.inl hl)
    | true =>
      obtain ⟨e4, e5⟩ := e3 hw
      refine e5 _ ?_
      unfold isLoad at hl
      split at hl
      · rename_i t x hop
        rw [hop] at e4 ⊢
        simp only [vop] at e4 ⊢
        split at e4
        · rename_i y hy
          rw [gA1] at e4 ⊢
          obtain ⟨z, hz, e⟩ := e4
          injection e with e _
          subst e
          exact ⟨z, vload_ext hz xs, rfl⟩
        · cases e4
      · cases hl
def SlotsOk (ops : Array Oper) (s : Nat) (T : Nat → List V) (listed : Array Bool) (tm : List V) : Prop := ∀ t i, i ≤ s → (∀ k o, ops[k]? = some o → o.dst = some t → (isL listed k ↔ k < i)) → tm[t]? = (T i)[t]?
def AtN (base : Nat) (w0 : World) (ops : Array Oper) (s : Nat) (T : Nat → List V) (S : Nat → St) (g0 : Gh) (toks0 : List Bool) (wa : World) (listed : Array Bool) (a : Act) (w : World) : Prop :=
  ∃ p tm g, p ∈ starts ops ∧ p ≤ s ∧ (∀ k o, ops[k]? = some o → isEff o.op = true → (isL listed k ↔ k < p)) ∧ Ext g0 toks0 wa g (S p).toks w ∧ Rel base w0 g (S p) w ∧ VRs g (S p).toks w tm a.tmps.toList ∧ tm.length = (T 0).length ∧ SlotsOk ops s T listed tm
def AtS (base : Nat) (w0 : World) (ops : Array Oper) (s : Nat) (T : Nat → List V) (S : Nat → St) (g0 : Gh) (toks0 : List Bool) (wa : World) (listed : Array Bool) (a : Act) (w : World) : Prop :=
  ∃ i o2 p tm g, PairA ops i (i + 1) ∧ ¬ isL listed i ∧ isL listed (i + 1) ∧ p ∈ starts ops ∧ p ≤ i ∧ (∀ k o, ops[k]? = some o → isEff o.op = true → k ≠ i + 1 → (isL listed k ↔ k < p)) ∧ S i = S p ∧ S (i + 2) = ⟨(S (i + 1)).objs ++ [o2], (S (i + 1)).toks⟩ ∧
    Ext g0 toks0 wa g (S p).toks w ∧ Rel base w0 g ⟨(S p).objs ++ [.unb, o2], (S p).toks⟩ w ∧ VRs g (S p).toks w tm a.tmps.toList ∧ tm.length = (T 0).length ∧ SlotsOk ops s T listed tm
structure Mid (base : Nat) (w0 : World) (ops : Array Oper) (s : Nat) (T : Nat → List V) (S : Nat → St) (g0 : Gh) (toks0 : List Bool) (wa : World) (a0 : Act) (listed : Array Bool) (a : Act) (w : World) : Prop where
  size : listed.size = ops.size
  below : ∀ i, isL listed i → i < s
  closed : ∀ i, isL listed i → ∀ j ∈ bef ops i, isL listed j
  defers : a.defers = a0.defers
  at_ : AtN base w0 ops s T S g0 toks0 wa listed a w ∨ AtS base w0 ops s T S g0 toks0 wa listed a w
theorem isL_set {listed : Array Bool} {i : Nat} (hi : i < listed.size) (j : Nat) : isL (listed.setIfInBounds i true) j ↔ j = i ∨ isL listed j := by
  unfold isL
  by_cases h : i = j
  · subst h; simp [hi]
  · rw [getD_set_ne false h]
    constructor
    · exact .inr
    · rintro (e | e)
      · exact absurd e.symm h
      · exact e
theorem bef_closed_ready {ops : Array Oper} (hd : DS ops) {listed : Array Bool} (hc : ∀ i, isL listed i → ∀ j ∈ bef ops i, isL listed j) {i : Nat} {o : Oper} (ho : ops[i]? = some o) (hall : ∀ e ∈ o.after, Region.binds .any e = true → isL listed e.on) : ∀ j ∈ bef ops i, isL listed j := by
  intro j hj
  rw [bef_eq ho, List.mem_flatMap] at hj
  obtain ⟨e, he, hj⟩ := hj
  rw [List.mem_filter] at he
  simp only [Bool.and_eq_true, decide_eq_true_eq] at he
  have hle := hall e (by simpa using he.1) he.2.1
  cases hj with
  | head => exact hle
  | tail _ hj => exact hc _ hle j hj
theorem vput_length (tm : List V) (d : Option Tmp) (v : V) : (vput tm d v).length = tm.length := by cases d <;> simp [vput]
theorem any_ok (hp : PrimOk P pr base w0) {n : Nat} (ihc : ∀ (m : Nat), m < n → CR P pr base w0 m) {ops : Array Oper} (hd : DS ops)
    {x : VX} {tmps' : List V} {σ' : St} {s : Nat} {T : Nat → List V} {S : Nat → St} (hT : Tr P pr n ops x tmps' σ' s T S) {g0 : Gh} {wa : World} {a0 : Act} {Q : Exit → Act → World → Prop} {ro : Option Nat}
    (hN : x = .normal → ∀ g a w, Ext g0 (S 0).toks wa g σ'.toks w → Rel base w0 g σ' w → VRs g σ'.toks w tmps' a.tmps.toList → a.defers = a0.defers → Q .normal a w)
    (hP : ∀ v, x = .pan v → ∀ g a w u, Ext g0 (S 0).toks wa g σ'.toks w → Rel base w0 g σ' w → VR g σ'.toks w v u → a.defers = a0.defers → Q (.panic [{ v := u, recovered := false }]) a w) :
    ∀ (fuel : Nat) (listed : Array Bool) (a : Act) (w : World), (List.range ops.size).countP (fun i => !(listed.getD i false)) ≤ fuel → Mid base w0 ops s T S g0 (S 0).toks wa a0 listed a w → wpAnyIn (Fr ro) 0 P .any ops Q fuel listed a w := by
  have out : ∀ {m : Nat} {o : Oper} {tm : List V} {σ : St} {r : Out}, m < n → vcore P pr m ops o tm σ = some r → OutOk P base w0 ops o tm σ r := by
    intro m o tm σ r hm h
    cases m with
    | zero => simp [vcore] at h
    | succ k => exact core_ok hp (ihc k (by omega)) h
  have done : ∀ (listed : Array Bool) (a : Act) (w : World), Mid base w0 ops s T S g0 (S 0).toks wa a0 listed a w → Region.ready .any ops listed = [] → Q .normal a w := by
    intro listed a w hM hr
    have all : ∀ i, i < ops.size → isL listed i := by
      intro i
      induction i using Nat.strongRecOn with
      | _ i ih =>
        intro hi
        cases hl : listed.getD i false with
        | true => exact hl
        | false =>
          exfalso
          have ho : ops[i]? = some ops[i] := Array.getElem?_eq_getElem hi
          have : i ∈ Region.ready .any ops listed := mem_ready.2 ⟨by
            rw [Array.getD_eq_getD_getElem?] at hl ⊢
            rw [Array.getElem?_eq_getElem (by rw [hM.size]; exact hi)] at hl ⊢
            exact hl, ops[i], ho, fun e he hb => ih e.on (hd.back i _ ho e he hb) (by have := hd.back i _ ho e he hb; omega)⟩
          rw [hr] at this
          cases this
    rcases hM.at_ with hN' | ⟨i, o2, p, tm, g, hpa, hni, hi1, _⟩
    case inr =>
      obtain ⟨o, ho, _⟩ := hpa.fst
      exact absurd (all i (Array.getElem?_eq_some_iff.1 ho).1) hni
    obtain ⟨p, tm, g, hp1, hp2, heff, hE, hR, hV, hlen, hsl⟩ := hN'
    rcases hT.fin with ⟨hx, hs, hTs, hSs⟩ | ⟨v, o, m, hx, hm, ho, _, hc⟩
    · have hpS : S s = S p := by
        refine hT.same hp2 (Nat.le_refl _) fun k o h1 h2 ho => ?_
        cases he : isEff o.op with
        | false => rfl
        | true => have := (heff k o ho he).1 (all k (by omega)); omega
      have htm : tm = tmps' := by
        rw [← hTs]
        apply List.ext_getElem?
        intro t
        exact hsl t s (Nat.le_refl _) fun k o ho _ => ⟨fun h => hM.below k h, fun h => all k (by omega)⟩
      rw [← hpS, hSs] at hE hR hV
      rw [htm] at hV
      exact hN hx g a w hE hR hV hM.defers
    · exfalso
      have hlt : s < ops.size := (Array.getElem?_eq_some_iff.1 ho).1
      have := hM.below s (all s hlt)
      omega
  intro fuel
  induction fuel with
  | zero =>
    intro listed a w hcnt hM
    have hr : Region.ready .any ops listed = [] := by
      apply List.eq_nil_iff_forall_not_mem.2
      intro i hi
      obtain ⟨h0, o, ho, _⟩ := mem_ready.1 hi
      have hlt : i < ops.size := (Array.getElem?_eq_some_iff.1 ho).1
      have h0' : listed.getD i false = false := by
        rw [Array.getD_eq_getD_getElem?, Array.getElem?_eq_getElem (by rw [hM.size]; exact hlt)] at h0 ⊢
        exact h0
      have : 0 < (List.range ops.size).countP (fun i => !(listed.getD i false)) := List.countP_pos_iff.2 ⟨i, by simpa using hlt, by rw [h0']; rfl⟩
      omega
    exact ⟨hr, done listed a w hM hr⟩
  | succ fuel ih =>
    intro listed a w hcnt hM
    refine ⟨done listed a w hM, fun i hi => ?_⟩
    obtain ⟨h0, o, ho, hall⟩ := mem_ready.1 hi
    have hlt : i < ops.size := (Array.getElem?_eq_some_iff.1 ho).1
    have hlt' : i < listed.size := by rw [hM.size]; exact hlt
    have hun : ¬ isL listed i := by
      unfold isL
      rw [Array.getD_eq_getD_getElem?, Array.getElem?_eq_getElem hlt'] at h0 ⊢
      simp at h0 ⊢
      exact h0
    have hbl : ∀ j ∈ bef ops i, isL listed j := bef_closed_ready hd hM.closed ho hall
    have hwp : ∀ K, wpOper ro P ops Q o K a w → wpOpIn (Fr ro) 0 P ops Q i K a w := fun K h => by unfold wpOpIn; rw [ho]; exact h
    apply hwp
    have hnb : ∀ k, isL listed k → i ∉ bef ops k := fun k hk hb => hun (hM.closed k hk i hb)
    have his : i ≤ s := by
      rcases Nat.lt_or_ge s i with h | h
      · exfalso
        rcases hT.fin with ⟨_, hs, _⟩ | ⟨v, o', m, _, _, _, hlast, _⟩
        · omega
        · have := List.all_eq_true.1 hlast i (by simpa using hlt)
          simp only [Bool.or_eq_true, decide_eq_true_eq] at this
          rcases this with h9 | h9
          · omega
          · rw [bms_eq] at h9
            have h9' : s ∈ bef ops i := by simpa [bef] using h9
            have := hM.below s (hbl s h9')
            omega
      · exact h
    have hlook' : ∀ tm, SlotsOk ops s T listed tm → ∀ t, t ∈ looksAt ops o → tm[t]? = (T i)[t]? := by
      intro tm hsl t ht
      refine hsl t i his fun k q hq hqd => ?_
      constructor
      · intro hk
        rcases Nat.lt_or_ge k i with h | h
        · exact h
        · exfalso
          have hki : i < k := by
            rcases Nat.lt_or_ge i k with h' | h'
            · exact h'
            · exact absurd (show k = i from by omega) (fun e => hun (e ▸ hk))
          exact (hd.slots i k o q ho hq hki (hnb k hk)).2.1 t hqd ht
      · intro hki
        by_cases hb : k ∈ bef ops i
        · exact hbl k hb
        · exact absurd ht ((hd.slots k i q o hq ho hki hb).1 t hqd).1
    have slotsN : ∀ (tm : List V) (v : V), i < s → T (i + 1) = vput (T i) o.dst v → tm.length = (T 0).length → SlotsOk ops s T listed tm → SlotsOk ops s T (listed.setIfInBounds i true) (vput tm o.dst v) := by
      intro tm v his hTi hlen hsl t j hj hw
      by_cases hdt : o.dst = some t
      · have hij : i < j := (hw i o ho hdt).1 ((isL_set hlt' i).2 (.inl rfl))
        have h1 : (T j)[t]? = (T (i + 1))[t]? := by
          refine hT.slot hij hj fun k o' h1 h2 ho' hd' => ?_
          have hk := (isL_set hlt' k).1 ((hw k o' ho' hd').2 h2)
          rcases hk with e | hk
          · omega
          · exact ((hd.slots i k o o' ho ho' (by omega) (hnb k hk)).1 t hdt).2 hd'
        rw [h1, hTi, hdt]
        simp only [vput, List.getElem?_set_self']
        rcases Nat.lt_or_ge t (T 0).length with hl | hl
        · rw [List.getElem?_eq_getElem (by rw [hlen]; exact hl), List.getElem?_eq_getElem (by rw [hT.len i (by omega)]; exact hl)]
          rfl
        · rw [List.getElem?_eq_none (by rw [hlen]; exact hl), List.getElem?_eq_none (by rw [hT.len i (by omega)]; exact hl)]
      · have h1 : (vput tm o.dst v)[t]? = tm[t]? := by
          cases hd2 : o.dst with
          | none => rfl
          | some d => simp only [vput]; exact gA3 (fun e => hdt (by rw [hd2, e]))
        rw [h1]
        refine hsl t j hj fun k o' ho' hd' => ?_
        rw [← hw k o' ho' hd', isL_set hlt']
        constructor
        · exact .inr
        · rintro (e | h)
          · subst e; rw [ho] at ho'; injection ho' with ho'; rw [ho'] at hdt; exact absurd hd' hdt
          · exact h
    -- what stands behind
    have next0 : ∀ {u : Value} {w' : World}, i < s → (AtN base w0 ops s T S g0 (S 0).toks wa (listed.setIfInBounds i true) (a.put o.dst u) w' ∨ AtS base w0 ops s T S g0 (S 0).toks wa (listed.setIfInBounds i true) (a.put o.dst u) w') →
        wpAnyIn (Fr ro) 0 P .any ops Q fuel (listed.setIfInBounds i true) (a.put o.dst u) w' := by
      intro u w' his hat
      apply ih
      · have := countP_lt' (p := fun j => !((listed.setIfInBounds i true).getD j false)) (q := fun j => !(listed.getD j false)) (fun j hj => by
            simp only [Bool.not_eq_true'] at hj ⊢
            cases hb : listed.getD j false with
            | false => rfl
            | true => rw [(getD_set_true hb)] at hj; cases hj) (i := i) (by
            have := (isL_set hlt' i).2 (.inl rfl)
            unfold isL at this
            simp only [this, Bool.not_true]) (by
            unfold isL at hun
            simpa using hun) (l := List.range ops.size) (by simpa using hlt)
        omega
      · refine ⟨by simpa using hM.size, fun j hj => ?_, fun j hj k hk => ?_, by rw [put_defers']; exact hM.defers, hat⟩
        · rcases (isL_set hlt' j).1 hj with e | hj
          · rw [e]; exact his
          · exact hM.below j hj
        · apply (isL_set hlt' k).2
          rcases (isL_set hlt' j).1 hj with e | hj
          · subst e; exact .inr (hbl k hk)
          · exact .inr (hM.closed j hj k hk)
    have windowOk : ∀ p, p ∈ starts ops → (∀ k q, ops[k]? = some q → isEff q.op = true → (k ∈ bef ops i → k < p) ∧ (i ∈ bef ops k → p ≤ k)) → p ≤ s → ∀ tm, SlotsOk ops s T listed tm → ∀ {m : Nat} {v : V}, vcore P pr m ops o tm (S i) = some (.val v (S i)) → isEff o.op = false → vcore P pr m ops o tm (S p) = some (.val v (S p)) := by
      intro p hp1 hwin hp2 tm hsl m v hc' he
      have hlook := hlook' tm hsl
      obtain ⟨v', e1, e2, e3⟩ := quiet_any (S := S p) he hc'
      injection e1 with e1 e1'
      subst e1
      cases hw : vwant ops tm o with
      | false => exact e2 (.inr hw)
      | true =>
        cases hl : isLoad o.op with
        | false => exact e2 (.inl hl)
        | true =>
          obtain ⟨e4, e5⟩ := e3 hw
          have hpw : p ∈ window ops i := mem_window.2 ⟨hp1, hwin⟩
          by_cases hwl : 1 < (window ops i).length
          · obtain ⟨v2, S2, h1, h2⟩ := hT.again i o his ho hl hwl (by rw [← vwant_congr hlook]; exact hw)
            have hv2 : v2 = v := by
              rw [vop_congr (fun t ht => hlook t (looks_op ht))] at e4
              rw [h1] at e4
              injection e4 with e4
              injection e4
            have h3 := h2 p hp2 hpw
            unfold loadAgain at h3
            split at h3
            · rename_i u S3 hu
              have := vbeq_ok _ _ h3
              rw [← vop_congr (fun t ht => hlook t (looks_op ht)), this, hv2] at hu
              have hS3 := (vop_quiet (S := S p) he hu).1
              rw [hS3] at hu
              exact e5 _ hu
            · cases h3
          · obtain ⟨c, hc1, hc2, hc3⟩ := canon ops i (by omega)
            have hcw : c ∈ window ops i := by
              refine mem_window.2 ⟨hc1, fun k q hq hqe => ⟨fun hb => ?_, fun hb => ?_⟩⟩
              · have hki := bef_lt i k hb
                rcases Nat.lt_or_ge k c with h | h
                · exact h
                · have := hc3 k q h hki hq
                  rw [hqe] at this
                  exact Bool.noConfusion this
              · have := bef_lt k i hb
                omega
            have hpc := only_one hwl hpw hcw
            have hSi : S i = S p := by rw [hpc]; exact hT.same hc2 his hc3
            exact e5 _ (by rw [← hSi]; exact e4)
    rcases hM.at_ with ⟨p, tm, g, hp1, hp2, heff, hE, hR, hV, hlen, hsl⟩ | ⟨k, o2, p, tm, g, hpa, hnk, hk1, hp1, hp2, heff, hSk, hS2, hE, hR, hV, hlen, hsl⟩
    · have hlook := hlook' tm hsl
      by_cases hsp : ∃ k, PairA ops k i ∧ ¬ isL listed k
      · -- the second of two variables, ahead of the first
        obtain ⟨k, hpa, hnk⟩ := hsp
        have hik := hpa.next
        subst hik
        obtain ⟨ok, hok, hak⟩ := hpa.fst
        obtain ⟨oi, hoi, hai⟩ := hpa.snd
        rw [ho] at hoi
        injection hoi with hoi
        subst hoi
        rcases Nat.lt_or_ge (k + 1) s with hlts | hges
        · obtain ⟨o', m, v, ho', hm, hc, hTi⟩ := hT.step (k + 1) hlts
          rw [ho] at ho'
          injection ho' with ho'
          subst ho'
          obtain ⟨o', m1, v1, ho', hm1, hc1, _⟩ := hT.step k (by omega)
          rw [hok] at ho'
          injection ho' with ho'
          subst ho'
          obtain ⟨t2, z2, ob2, _, _, hob2, hv2, hS2, hany2, _⟩ := vcore_alloc hai hc
          obtain ⟨t1, z1, ob1, _, _, _, hv1, hS1, hany1, _⟩ := vcore_alloc hak hc1
          have hpk : p ≤ k := by
            rcases Nat.lt_or_ge k p with h | h
            · exact absurd ((heff k ok hok (isAlloc_eff hak)).2 h) hnk
            · exact h
          have hbefore : ∀ j q, ops[j]? = some q → isEff q.op = true → j < k → isL listed j := by
            intro j q hq hqe hjk
            by_cases hb : j ∈ bef ops (k + 1)
            · exact hbl j hb
            · have := ((hd.slots j (k + 1) q o hq ho (by omega) hb).2.2 ⟨hqe, isAlloc_eff hai⟩).next
              omega
          have hSk : S k = S p := hT.same hpk (by omega) fun j q h1 h2 hq => by
            cases hqe : isEff q.op with
            | false => rfl
            | true => have := (heff j q hq hqe).1 (hbefore j q hq hqe h2); omega
          have hcore := hany2 tm ⟨(S p).objs ++ [.unb], (S p).toks⟩
          refine out hm hcore g.hide w a hR.hide (VRs.ext (Ext.hide _ _ _) _ hV) Q _ (fun g' w' u hE' hR' hV' => ?_) ro
          have hv3 : V.optr ((S p).objs ++ [Ob.unb]).length 0 = v := by rw [hv2, hS1, hSk]; simp
          refine next0 hlts (.inr ⟨k, ob2, p, vput tm o.dst v, g', hpa, ?_, ?_, hp1, hpk, fun j q hq hqe hj => ?_, hSk, hS2, (hE.trans (Ext.hide _ _ _)).trans hE', ?_, ?_, ?_, slotsN tm v hlts hTi hlen hsl⟩)
          · rw [isL_set hlt']
            rintro (e | h)
            · omega
            · exact hnk h
          · rw [isL_set hlt']; exact .inl rfl
          · rw [isL_set hlt', heff j q hq hqe]
            constructor
            · rintro (e | h)
              · exact absurd e hj
              · exact h
            · exact .inr
          · simpa using hR'
          · refine vput_ok (VRs.ext hE' _ (VRs.ext (Ext.hide _ _ _) _ hV)) ?_ o.dst
            rw [← hv3]
            exact hV'
          · rw [vput_length]; exact hlen
        · have hsi : k + 1 = s := by omega
          rcases hT.fin with ⟨_, hs, _⟩ | ⟨v, o', m, hx, hm, ho', _, hc⟩
          · omega
          · rw [← hsi, ho] at ho'
            injection ho' with ho'
            subst ho'
            exact (vcore_alloc_pan hai hc).elim
      · have effB : isEff o.op = true → ∀ k q, ops[k]? = some q → isEff q.op = true → (isL listed k ↔ k < i) := by
          intro he k q hq hqe
          constructor
          · intro hk
            rcases Nat.lt_or_ge k i with h | h
            · exact h
            · exfalso
              have hki : i < k := by
                rcases Nat.lt_or_ge i k with h' | h'
                · exact h'
                · exact absurd (show k = i from by omega) (fun e => hun (e ▸ hk))
              have := (hd.slots i k o q ho hq hki (hnb k hk)).2.2 ⟨he, hqe⟩
              have h1 := (heff k q hq hqe).1 hk
              exact hun ((heff i o ho he).2 (by omega))
          · intro hki
            by_cases hb : k ∈ bef ops i
            · exact hbl k hb
            · have hp := (hd.slots k i q o hq ho hki hb).2.2 ⟨hqe, he⟩
              by_cases hlk : isL listed k
              · exact hlk
              · exact absurd ⟨k, hp, hlk⟩ hsp
        have heffi : isEff o.op = true → S p = S i := by
          intro he
          have hiff : ∀ k q, ops[k]? = some q → isEff q.op = true → (k < p ↔ k < i) := fun k q hq hqe => (heff k q hq hqe).symm.trans (effB he k q hq hqe)
          rcases Nat.le_total p i with hpi | hpi
          · refine (hT.same hpi his fun k q h1 h2 hq => ?_).symm
            cases hqe : isEff q.op with
            | false => rfl
            | true => have := (hiff k q hq hqe).2 h2; omega
          · refine hT.same hpi hp2 fun k q h1 h2 hq => ?_
            cases hqe : isEff q.op with
            | false => rfl
            | true => have := (hiff k q hq hqe).1 h2; omega
        have next : ∀ {v : V} {q : Nat} {g' : Gh} {w' : World} {u : Value} (his : i < s) (hTi : T (i + 1) = vput (T i) o.dst v) (hq1 : q ∈ starts ops) (hq2 : q ≤ s)
            (hq3 : ∀ k o', ops[k]? = some o' → isEff o'.op = true → (k = i ∨ isL listed k ↔ k < q)) (hE' : Ext g (S p).toks w g' (S q).toks w') (hR' : Rel base w0 g' (S q) w') (hV' : VR g' (S q).toks w' v u),
            wpAnyIn (Fr ro) 0 P .any ops Q fuel (listed.setIfInBounds i true) (a.put o.dst u) w' := by
          intro v q g' w' u his hTi hq1 hq2 hq3 hE' hR' hV'
          exact next0 his (.inl ⟨q, vput tm o.dst v, g', hq1, hq2, fun k o' ho' he' => (isL_set hlt' k).trans (hq3 k o' ho' he'), hE.trans hE', hR', vput_ok (VRs.ext hE' _ hV) hV' o.dst, by rw [vput_length]; exact hlen, slotsN tm v his hTi hlen hsl⟩)
        rcases Nat.lt_or_ge i s with hlts | hges
        · obtain ⟨o', m, v, ho', hm, hc, hTi⟩ := hT.step i hlts
          rw [ho] at ho'
          injection ho' with ho'
          subst ho'
          have hc' : vcore P pr m ops o tm (S i) = some (.val v (S (i + 1))) := by rw [vcore_congr hlook]; exact hc
          cases he : isEff o.op with
          | true =>
            have hpi := heffi he
            refine out hm hc' g w a (by rw [← hpi]; exact hR) (by rw [← hpi]; exact hV) Q _ (fun g' w' u hE' hR' hV' => ?_) ro
            refine next hlts hTi (mem_starts.2 (.inr ⟨i, o, ho, he, rfl⟩)) (by omega) (fun k q hq hqe => ?_) (by rw [hpi]; exact hE') hR' hV'
            rw [effB he k q hq hqe]
            omega
          | false =>
            obtain ⟨v', e1, _, _⟩ := quiet_any (S := S p) he hc'
            injection e1 with e1 e1'
            subst e1
            rw [e1'] at hc'
            have hgo := windowOk p hp1 (fun k q hq hqe => ⟨fun hb => (heff k q hq hqe).1 (hbl k hb), fun hb => by
                rcases Nat.lt_or_ge k p with h | h
                · exact absurd hb (hnb k ((heff k q hq hqe).2 h))
                · exact h⟩) hp2 tm hsl hc' he
            refine out hm hgo g w a hR hV Q _ (fun g' w' u hE' hR' hV' => ?_) ro
            refine next hlts hTi hp1 hp2 (fun k q hq hqe => ?_) hE' hR' hV'
            rw [← heff k q hq hqe]
            constructor
            · rintro (e | hk)
              · subst e; rw [ho] at hq; injection hq with hq; rw [← hq, he] at hqe; cases hqe
              · exact hk
            · exact .inr
        · have hsi : i = s := by omega
          rcases hT.fin with ⟨_, hs, _⟩ | ⟨v, o', m, hx, hm, ho', _, hc⟩
          · omega
          · rw [← hsi, ho] at ho'
            injection ho' with ho'
            subst ho'
            rw [← hsi] at hc
            have hc' : vcore P pr m ops o tm (S i) = some (.pan v σ') := by rw [vcore_congr hlook]; exact hc
            cases he : isEff o.op with
            | false =>
              obtain ⟨v', e1, _⟩ := quiet_any (S := S p) he hc'
              cases e1
            | true =>
              have hpi := heffi he
              refine out hm hc' g w a (by rw [← hpi]; exact hR) (by rw [← hpi]; exact hV) Q _ (fun g' w' u hE' hR' hV' => ?_) ro
              exact hP v hx g' a w' u (hE.trans (by rw [hpi]; exact hE')) hR' hV' hM.defers
    · -- one of two variables is made
      have hlook := hlook' tm hsl
      obtain ⟨ok, hok, hak⟩ := hpa.fst
      obtain ⟨oj, hoj, haj⟩ := hpa.snd
      have hks : k + 1 < s := hM.below _ hk1
      by_cases hik : i = k
      · subst hik
        rw [ho] at hok
        injection hok with hok
        subst hok
        obtain ⟨o', m, v, ho', hm, hc, hTi⟩ := hT.step i (by omega)
        rw [ho] at ho'
        injection ho' with ho'
        subst ho'
        obtain ⟨t1, z1, ob1, hop, hz, hob1, hv1, hS1, hany1, hwant⟩ := vcore_alloc hak hc
        have hrr : g.hid (S p).objs.length = true := (hR.hid _).2 (by simp)
        have hB := alloc_born (P := P) hR hrr (a := a) hop hz hob1
        obtain ⟨nx, u, w', g', hrun, hnx, hE', hR', hV'⟩ := hB
        refine wpOper_run (hwant _) (fun c hc' => by have h9 := hak; unfold isAlloc at h9; rw [hc'] at h9; cases h9) hrun ?_
        have hq : S (i + 2) = ⟨((S p).objs ++ [Ob.unb, o2]).set (S p).objs.length ob1, (S p).toks⟩ := by
          rw [hS2, hS1, hSk]
          simp
        have hq2 : (S (i + 2)).toks = (S p).toks := by rw [hq]
        have fin := next0 (u := u) (w' := w') (by omega) (.inl ⟨i + 2, vput tm o.dst v, g', mem_starts.2 (.inr ⟨i + 1, oj, hoj, isAlloc_eff haj, rfl⟩), by omega, fun j q hq' hqe => by
          rw [isL_set hlt']
          by_cases hj : j = i + 1
          · subst hj
            exact iff_of_true (.inr hk1) (by omega)
          · rw [heff j q hq' hqe hj]
            constructor
            · rintro (e | h)
              · omega
              · omega
            · intro h
              by_cases e : j = i
              · exact .inl e
              · right
                have hji : j < i := by omega
                have : isL listed j := by
                  by_cases hb : j ∈ bef ops (i + 1)
                  · exact hM.closed _ hk1 j hb
                  · have := ((hd.slots j (i + 1) q oj hq' hoj (by omega) hb).2.2 ⟨hqe, isAlloc_eff haj⟩).next
                    omega
                exact (heff j q hq' hqe hj).1 this, hE.trans (by rw [hq2]; exact hE'), by rw [hq]; exact hR', by
          rw [hq2]
          refine vput_ok (VRs.ext hE' _ hV) ?_ o.dst
          rw [hv1, hSk]
          exact hV', by rw [vput_length]; exact hlen, slotsN tm v (by omega) hTi hlen hsl⟩)
        rcases hnx with rfl | ⟨rfl, rfl⟩
        · exact fin
        · exact fin
      · have hij : i ≠ k + 1 := fun e => hun (e ▸ hk1)
        have hki : k ∉ bef ops i := fun hb => hnk (hbl k hb)
        have hji : k + 1 ∉ bef ops i := fun hb => hki ((hpa.both i hlt hik hij).2 hb)
        have hquiet : isEff o.op = false := by
          cases he : isEff o.op with
          | false => rfl
          | true =>
            exfalso
            rcases Nat.lt_or_ge i (k + 1) with h | h
            · have := ((hd.slots i (k + 1) o oj ho hoj h (hnb _ hk1)).2.2 ⟨he, isAlloc_eff haj⟩).next
              omega
            · have := ((hd.slots k i ok o hok ho (by omega) hki).2.2 ⟨isAlloc_eff hak, he⟩).next
              omega
        have hlts : i < s := by
          rcases Nat.lt_or_ge i s with h | h
          · exact h
          · exfalso
            have hsi : i = s := by omega
            rcases hT.fin with ⟨_, hs, _⟩ | ⟨v, o', m, hx, hm, ho', _, hc⟩
            · omega
            · rw [← hsi, ho] at ho'
              injection ho' with ho'
              subst ho'
              obtain ⟨v', e1, _⟩ := quiet_any (S := S p) hquiet hc
              cases e1
        obtain ⟨o', m, v, ho', hm, hc, hTi⟩ := hT.step i hlts
        rw [ho] at ho'
        injection ho' with ho'
        subst ho'
        have hc' : vcore P pr m ops o tm (S i) = some (.val v (S (i + 1))) := by rw [vcore_congr hlook]; exact hc
        obtain ⟨v', e1, _, _⟩ := quiet_any (S := S p) hquiet hc'
        injection e1 with e1 e1'
        subst e1
        rw [e1'] at hc'
        have hgo := windowOk p hp1 (fun j q hq hqe => by
          by_cases hj : j = k + 1
          · subst hj
            exact ⟨fun hb => absurd hb hji, fun hb => by omega⟩
          · exact ⟨fun hb => (heff j q hq hqe hj).1 (hbl j hb), fun hb => by
              rcases Nat.lt_or_ge j p with h | h
              · exact absurd hb (hnb j ((heff j q hq hqe hj).2 h))
              · exact h⟩) (by omega) tm hsl hc' hquiet
        have hgo2 := vcore_ext hquiet hgo [.unb, o2]
        refine out hm hgo2 g w a hR hV Q _ (fun g' w' u hE' hR' hV' => ?_) ro
        refine next0 hlts (.inr ⟨k, o2, p, vput tm o.dst v, g', hpa, ?_, ?_, hp1, hp2, fun j q hq hqe hj => ?_, hSk, hS2, hE.trans hE', hR', vput_ok (VRs.ext hE' _ hV) hV' o.dst, by rw [vput_length]; exact hlen, slotsN tm v hlts hTi hlen hsl⟩)
        · rw [isL_set hlt']
          rintro (e | h)
          · exact hik e.symm
          · exact hnk h
        · rw [isL_set hlt']; exact .inr hk1
        · rw [isL_set hlt', ← heff j q hq hqe hj]
          constructor
          · rintro (e | h)
            · subst e; rw [ho] at hq; injection hq with hq; rw [← hq, hquiet] at hqe; cases hqe
            · exact h
          · exact .inr
def SoundE (P : Program) (base : Nat) (w0 : World) (E : RunC) : Prop := ∀ (c : Code) (tmps : List V) (σ : St) (x : VX) (tmps' : List V) (σ' : St), E c tmps σ = some (x, tmps', σ') → ∀ (g : Gh) (w : World) (a : Act), Rel base w0 g σ w → VRs g σ.toks w tmps a.tmps.toList →
  c.wp P (Post base w0 g σ w a x tmps' σ') a w
def SoundO (P : Program) (base : Nat) (w0 : World) (O : RunO) : Prop := ∀ (ops : Array Oper) (l : List Oper) (tmps : List V) (σ : St) (x : VX) (tmps' : List V) (σ' : St), O ops l tmps σ = some (x, tmps', σ') → ∀ (g : Gh) (w : World) (a : Act), Rel base w0 g σ w → VRs g σ.toks w tmps a.tmps.toList →
  ∀ Q : Exit → Act → World → Prop, (∀ e a' w', Post base w0 g σ w a x tmps' σ' e a' w' → Q e a' w') → wpListIn (Fr none) 0 P ops Q l a w
theorem wpOper_mono {ro : Option Nat} {ops : Array Oper} {Q Q' : Exit → Act → World → Prop} {o : Oper} {K K' : Act → World → Prop} {a : Act} {w : World} (hk : ∀ a w, K a w → K' a w) (hq : ∀ e a w, e ≠ .normal → Q e a w → Q' e a w) (h : wpOper ro P ops Q o K a w) : wpOper ro P ops Q' o K' a w := by
  unfold wpOper at *
  split
  · rename_i hw
    rw [if_pos hw] at h
    unfold Oper.wpIn at *
    refine ⟨h.1, ?_⟩
    have h := h.2
    generalize (o.semAt (Fr ro).round a.eval).run P w = r at *
    cases r with
    | ok n w' =>
      cases n <;> simp only [Oper.uponIn] at h ⊢ <;> first
        | exact hk _ _ h
        | exact ⟨h.1, CallsIn.mono h.2 (fun e w'' he => by cases e <;> first | exact hk _ _ he | exact hq _ _ _ (by simp) he | (obtain ⟨a1, w1, he⟩ := he; exact ⟨a1, w1, hq _ _ _ (by simp) he⟩))⟩
        | exact ⟨h.1, RowsIn.mono h.2 (fun _ _ he => hk _ _ he)⟩
        | exact ⟨h.1, RoundIn.mono h.2 (fun e w'' he => by cases e <;> first | exact hk _ _ he | exact hq _ _ _ (by simp) he | (obtain ⟨a1, w1, he⟩ := he; exact ⟨a1, w1, hq _ _ _ (by simp) he⟩))⟩
    | halt x w' => cases x <;> simp only [Oper.uponIn] at h ⊢ <;> first | exact hq _ _ _ (by simp) h | exact h
  · rename_i hw
    rw [if_neg hw] at h
    exact ⟨h.1, hk _ _ h.2⟩
theorem wpList_append {ro : Option Nat} {ops : Array Oper} {Q : Exit → Act → World → Prop} : ∀ (l1 l2 : List Oper) {a : Act} {w : World}, wpListIn (Fr ro) 0 P ops (Exit.then (wpListIn (Fr ro) 0 P ops Q l2) Q) l1 a w → wpListIn (Fr ro) 0 P ops Q (l1 ++ l2) a w
  | [], l2, a, w, h => h
  | o :: l1, l2, a, w, h => by
    show wpOper ro P ops Q o (wpListIn (Fr ro) 0 P ops Q (l1 ++ l2)) a w
    exact wpOper_mono (fun a w hk => wpList_append l1 l2 hk) (fun e a w hne hq => by cases e <;> first | exact absurd rfl hne | exact hq) (show wpOper ro P ops (Exit.then (wpListIn (Fr ro) 0 P ops Q l2) Q) o (wpListIn (Fr ro) 0 P ops (Exit.then (wpListIn (Fr ro) 0 P ops Q l2) Q) l1) a w from h)
def DsR (g : Gh) (toks : List Bool) (w : World) : Ds → List Deferred → Prop
  | [], dv => dv = []
  | (f, vs) :: ds, dv => ∃ (caps args : Array Value) (dv' : List Deferred), dv = { target := .fn (.func f) caps, args := args } :: dv' ∧ VRs g toks w vs (args ++ caps).toList ∧ DsR g toks w ds dv'
theorem DsR.ext {g g' : Gh} {s s' : List Bool} {w w' : World} (e : Ext g s w g' s' w') : ∀ {ds : Ds} {dv : List Deferred}, DsR g s w ds dv → DsR g' s' w' ds dv
  | [], _, h => h
  | (f, vs) :: ds, _, ⟨caps, args, dv', h1, h2, h3⟩ => ⟨caps, args, dv', h1, VRs.ext e vs h2, DsR.ext e h3⟩
theorem DsR.append {g : Gh} {s : List Bool} {w : World} : ∀ {ds ds' : Ds} {dv dv' : List Deferred}, DsR g s w ds dv → DsR g s w ds' dv' → DsR g s w (ds ++ ds') (dv ++ dv')
  | [], ds', _, dv', h, h2 => by subst h; exact h2
  | (f, vs) :: ds, ds', _, dv', ⟨caps, args, dv1, h1, h2, h3⟩, h4 => ⟨caps, args, dv1 ++ dv', by rw [h1]; rfl, h2, h3.append h4⟩
def PostD (base : Nat) (w0 : World) (g : Gh) (σ : St) (w : World) (a : Act) (x : VX) (tmps' : List V) (σ' : St) (ds : Ds) (e : Exit) (a' : Act) (w' : World) : Prop :=
  ∃ g', Ext g σ.toks w g' σ'.toks w' ∧ Rel base w0 g' σ' w' ∧ XOk g' σ'.toks w' x e ∧ ((∃ v, x = .pan v ∧ tmps' = []) ∨ VRs g' σ'.toks w' tmps' a'.tmps.toList) ∧ ∃ dv, a'.defers = dv ++ a.defers ∧ DsR g' σ'.toks w' ds dv
theorem Post.toD {g : Gh} {σ : St} {w : World} {a : Act} {x : VX} {tmps' : List V} {σ' : St} {e : Exit} {a' : Act} {w' : World} (h : Post base w0 g σ w a x tmps' σ' e a' w') : PostD base w0 g σ w a x tmps' σ' [] e a' w' := by
  obtain ⟨g', h1, h2, h3, h4, h5⟩ := h
  exact ⟨g', h1, h2, h3, h4, [], h5, rfl⟩
theorem map_split {α β : Type} {o : Option α} {f : α → β} {b : β} (h : o.map f = some b) : ∃ a, o = some a ∧ f a = b := by
  rw [gA1] at h; exact h
theorem codeD_other {E : RunC} (hE : SoundE P base w0 E) {c : Code} {tmps : List V} {σ : St} {x : VX} {t : List V} {σ' : St} {ds : Ds} (h : (E c tmps σ).map (fun r => (r.1, r.2.1, r.2.2, ([] : Ds))) = some (x, t, σ', ds)) {g : Gh} {w : World} {a : Act} (hR : Rel base w0 g σ w) (hT : VRs g σ.toks w tmps a.tmps.toList) :
    c.wp P (PostD base w0 g σ w a x t σ' ds) a w := by
  obtain ⟨⟨x1, t1, s1⟩, h1, h2⟩ := map_split h
  injection h2 with e1 h2
  injection h2 with e2 h2
  injection h2 with e3 e4
  subst e1 e2 e3 e4
  exact wp_mono (hE _ _ _ _ _ _ h1 g w a hR hT) fun e a' w' hp => hp.toD
theorem codeD_ok {E : RunC} {O : RunO} (hE : SoundE P base w0 E) (hO : SoundO P base w0 O) : ∀ (c : Code) {tmps : List V} {σ : St} {x : VX} {t : List V} {σ' : St} {ds : Ds}, codeD E O c tmps σ = some (x, t, σ', ds) → ∀ (g : Gh) (w : World) (a : Act), Rel base w0 g σ w → VRs g σ.toks w tmps a.tmps.toList →
    c.wp P (PostD base w0 g σ w a x t σ' ds) a w
  | .region i ops true, tmps, σ, x, t, σ', ds, h, g, w, a, hR, hT => codeD_other hE (by simpa only [codeD] using h) hR hT
  | .region i ops false, tmps, σ, x, t, σ', ds, h, g, w, a, hR, hT => by
    rw [codeD] at h
    split at h
    · rename_i f as_ hl
      rw [Option.bind_eq_some_iff] at hl
      obtain ⟨o, hlast, hdo⟩ := hl
      have hsplit : ops.toList = ops.toList.dropLast ++ [o] := by
        have hne : ops.toList ≠ [] := by intro e; rw [e] at hlast; cases hlast
        rw [List.getLast?_eq_some_getLast hne] at hlast
        injection hlast with hlast
        rw [← hlast]
        exact (List.dropLast_concat_getLast hne).symm
      have hdef : ∃ args ats, o.op = .defer { callee := .value f, args := args, argTypes := ats } ∧ args.toList = as_ ∧ o.guard = none ∧ o.dst = none := by
        unfold deferOf at hdo
        split at hdo
        · rename_i f' args ats h1 h2 h3
          injection hdo with hdo
          injection hdo with e1 e2
          subst e1
          exact ⟨_, _, h1, e2, h2, h3⟩
        · cases hdo
      obtain ⟨args, ats, hop, has, hg, hd⟩ := hdef
      refine wpIn_fr.1 (wpIn_region_list ?_)
      rw [hsplit]
      refine wpList_append _ _ ?_
      split at h
      · rename_i t1 σ1 hx
        refine hO _ _ _ _ _ _ _ hx g w a hR hT _ fun e a' w' hp => ?_
        obtain ⟨g', hE1, hR1, hxo, hT1, hdf⟩ := hp
        replace hT1 := hT1.resolve_left (fun ⟨_, h9, _⟩ => by cases h9)
        simp only [XOk] at hxo
        subst hxo
        split at h
        · rename_i fid caps vs hf hvs
          injection h with h
          injection h with e1 h
          injection h with e2 h
          injection h with e3 e4
          subst e1 e2 e3 e4
          have hfv := evs_ok hT1 hf
          simp only [VR] at hfv
          obtain ⟨us, hfu, hus⟩ := hfv
          have hav := evAll_ok hT1 hvs
          show wpOper none P ops _ o _ a' w'
          unfold wpOper
          rw [if_pos (by simp [Region.wanted, hg])]
          refine ⟨fun _ _ => trivial, ?_⟩
          have hrun : (execOp a'.eval o).run P w' = .ok (.defer { target := .fn (.func fid) us.toArray, args := args.map a'.eval }) w' := by
            simp only [execOp, hop, resolve, hfu, Deferred.ofValue]
            simp
          rw [show (o.semAt (Fr none).round a'.eval).run P w' = (execOp a'.eval o).run P w' from rfl, hrun, Oper.uponIn_defer]
          simp only [wpListIn, Act.put, hd]
          refine ⟨g', hE1, hR1, rfl, .inr hT1, [{ target := .fn (.func fid) us.toArray, args := args.map a'.eval }], by simp [hdf], us.toArray, args.map a'.eval, [], rfl, ?_, rfl⟩
          have : (args.map a'.eval ++ us.toArray).toList = as_.map a'.eval ++ us := by rw [← has]; simp
          rw [this]
          exact hav.append hus
        · cases h
      · rename_i v t1 σ1 hx
        injection h with h
        injection h with e1 h
        injection h with e2 h
        injection h with e3 e4
        subst e1 e2 e3 e4
        refine hO _ _ _ _ _ _ _ hx g w a hR hT _ fun e a' w' hp => ?_
        have hp2 := hp.toD
        obtain ⟨g', hE1, hR1, hxo, hT1, hdf⟩ := hp
        obtain ⟨u, rfl, hV1⟩ := hxo
        exact hp2
      · cases h
    · exact codeD_other hE h hR hT
  | .seq a b, tmps, σ, x, t, σ', ds, h, g, w, a0, hR, hT => by
    rw [codeD] at h
    refine wp_seq ?_
    split at h
    · rename_i t1 σ1 ds1 h1
      obtain ⟨⟨x2, t2, s2, ds2⟩, h3, h4⟩ := map_split h
      injection h4 with e1 h4
      injection h4 with e2 h4
      injection h4 with e3 e4
      subst e1 e2 e3 e4
      refine wp_mono (codeD_ok hE hO a h1 g w a0 hR hT) fun e a' w' hp => ?_
      obtain ⟨g', hE1, hR1, hxo, hT1, dv, hdv, hds⟩ := hp
      replace hT1 := hT1.resolve_left (fun ⟨_, h9, _⟩ => by cases h9)
      simp only [XOk] at hxo
      subst hxo
      refine wp_mono (codeD_ok hE hO b h3 g' w' a' hR1 hT1) fun e2 a2 w2 hp2 => ?_
      obtain ⟨g2, hE2, hR2, hxo2, hT2, dv2, hdv2, hds2⟩ := hp2
      exact ⟨g2, hE1.trans hE2, hR2, hxo2, hT2, dv2 ++ dv, by rw [hdv2, hdv, List.append_assoc], hds2.append (hds.ext hE2)⟩
    · rename_i hne
      refine wp_mono (codeD_ok hE hO a h g w a0 hR hT) fun e a' w' hp => ?_
      have hp2 := hp
      obtain ⟨g', hE1, hR1, hxo, _⟩ := hp
      cases x with
      | normal => exact absurd h (hne _ _ _)
      | exit id => simp only [XOk] at hxo; subst hxo; exact hp2
      | ret => simp only [XOk] at hxo; subst hxo; exact hp2
      | pan v => obtain ⟨u, rfl, _⟩ := hxo; exact hp2
  | .cond c a b, tmps, σ, x, t, σ', ds, h, g, w, a0, hR, hT => by
    rw [codeD] at h
    split at h
    · rename_i hc
      have := evs_ok hT hc
      simp only [VR] at this
      exact wp_cond this (codeD_ok hE hO a h g w a0 hR hT)
    · rename_i hc
      have := evs_ok hT hc
      simp only [VR] at this
      exact wp_cond this (codeD_ok hE hO b h g w a0 hR hT)
    · cases h
  | .skip, tmps, σ, x, t, σ', ds, h, g, w, a, hR, hT => codeD_other hE (by simpa only [codeD] using h) hR hT
  | .label l, tmps, σ, x, t, σ', ds, h, g, w, a, hR, hT => codeD_other hE (by simpa only [codeD] using h) hR hT
  | .exit i, tmps, σ, x, t, σ', ds, h, g, w, a, hR, hT => codeD_other hE (by simpa only [codeD] using h) hR hT
  | .ret, tmps, σ, x, t, σ', ds, h, g, w, a, hR, hT => codeD_other hE (by simpa only [codeD] using h) hR hT
  | .block i c, tmps, σ, x, t, σ', ds, h, g, w, a, hR, hT => codeD_other hE (by simpa only [codeD] using h) hR hT
  | .loop c, tmps, σ, x, t, σ', ds, h, g, w, a, hR, hT => codeD_other hE (by simpa only [codeD] using h) hR hT
  | .rangeFunc f ps as_ b, tmps, σ, x, t, σ', ds, h, g, w, a, hR, hT => codeD_other hE (by simpa only [codeD] using h) hR hT
  | .scope c, tmps, σ, x, t, σ', ds, h, g, w, a, hR, hT => codeD_other hE (by simpa only [codeD] using h) hR hT
  | .goto l, tmps, σ, x, t, σ', ds, h, g, w, a, hR, hT => codeD_other hE (by simpa only [codeD] using h) hR hT
  | .refuse y, tmps, σ, x, t, σ', ds, h, g, w, a, hR, hT => codeD_other hE (by simpa only [codeD] using h) hR hT
def PnR (g : Gh) (toks : List Bool) (w : World) : Pn → FrameMode → Prop
  | none, u => u = .returning
  | some (v, r), u => ∃ x, u = .panicking [{ v := x, recovered := r }] ∧ VR g toks w v x
theorem PnR.ext {g g' : Gh} {s s' : List Bool} {w w' : World} (e : Ext g s w g' s' w') {m : Pn} {u : FrameMode} (h : PnR g s w m u) : PnR g' s' w' m u := by
  cases m with
  | none => exact h
  | some p => obtain ⟨x, h1, h2⟩ := h; exact ⟨x, h1, VR.ext e _ h2⟩
theorem PnR.settle {g : Gh} {s : List Bool} {w : World} {m : Pn} {u : FrameMode} (h : PnR g s w m u) : PnR g s w (settleV m) (settle u) := by
  match m with
  | none => simp only [PnR] at h; subst h; rfl
  | some (v, true) => obtain ⟨x, h1, h2⟩ := h; subst h1; simp [settleV, Go.settle, PnR]
  | some (v, false) => obtain ⟨x, h1, h2⟩ := h; subst h1; exact ⟨x, by simp [Go.settle], h2⟩
theorem PnR.run {g : Gh} {s : List Bool} {w : World} {m : Pn} {u : FrameMode} (h : PnR g s w m u) : u ≠ .run := by
  cases m with
  | none => simp only [PnR] at h; subst h; simp
  | some p => obtain ⟨x, h1, h2⟩ := h; subst h1; simp
theorem recV_ok {g : Gh} {s : List Bool} {w : World} {m : Pn} {c : Frame} {cs : List Frame} (h : PnR g s w m c.mode) : ∃ u u', PnR g s w (recV m).2 u' ∧ VR g s w (recV m).1 u ∧
    match recoverD (c :: cs) with
    | some (v, cs') => v = u ∧ cs' = { c with mode := u' } :: cs
    | none => u = .nilIface ∧ u' = c.mode := by
  match m with
  | none =>
    simp only [PnR] at h
    refine ⟨.nilIface, .returning, rfl, by simp [recV, VR], ?_⟩
    simp [recoverD, h]
  | some (v, true) =>
    obtain ⟨x, h1, h2⟩ := h
    refine ⟨.nilIface, c.mode, ⟨x, h1, h2⟩, by simp [recV, VR], ?_⟩
    simp [recoverD, h1]
  | some (v, false) =>
    obtain ⟨x, h1, h2⟩ := h
    refine ⟨x, .panicking [{ v := x, recovered := true }], ⟨x, rfl, h2⟩, h2, ?_⟩
    simp [recoverD, h1]
def PostS (base : Nat) (w0 : World) (g : Gh) (σ : St) (w : World) (c0 : Frame) (cs : List Frame) (a : Act) (x : VX) (tmps' : List V) (m' : Pn) (σ' : St) (e : Exit) (a' : Act) (cs' : List Frame) (w' : World) : Prop :=
  ∃ g' u', cs' = { c0 with mode := u' } :: cs ∧ Ext g σ.toks w g' σ'.toks w' ∧ Rel base w0 g' σ' w' ∧ XOk g' σ'.toks w' x e ∧ ((∃ v, x = .pan v ∧ tmps' = []) ∨ VRs g' σ'.toks w' tmps' a'.tmps.toList) ∧ a'.defers = a.defers ∧ PnR g' σ'.toks w' m' u'
theorem Post.toS {g : Gh} {σ : St} {w : World} {a : Act} {x : VX} {tmps' : List V} {σ' : St} {e : Exit} {a' : Act} {w' : World} (h : Post base w0 g σ w a x tmps' σ' e a' w') {m : Pn} {c0 : Frame} {cs : List Frame} (hm : PnR g σ.toks w m c0.mode) : PostS base w0 g σ w c0 cs a x tmps' m σ' e a' (c0 :: cs) w' := by
  obtain ⟨g', h1, h2, h3, h4, h5⟩ := h
  exact ⟨g', c0.mode, rfl, h1, h2, h3, h4, h5, hm.ext h1⟩
theorem codeS_other {E : RunC} (hE : SoundE P base w0 E) {c : Code} {tmps : List V} {m : Pn} {σ : St} {x : VX} {t : List V} {m' : Pn} {σ' : St} (h : (E c tmps σ).map (fun r => (r.1, r.2.1, m, r.2.2)) = some (x, t, m', σ')) {g : Gh} {w : World} {a : Act} {c0 : Frame} {cs : List Frame} (hR : Rel base w0 g σ w) (hT : VRs g σ.toks w tmps a.tmps.toList) (hm : PnR g σ.toks w m c0.mode) :
    c.wpS P (PostS base w0 g σ w c0 cs a x t m' σ') a (c0 :: cs) w := by
  obtain ⟨⟨x1, t1, s1⟩, h1, h2⟩ := map_split h
  injection h2 with e1 h2
  injection h2 with e2 h2
  injection h2 with e3 e4
  subst e1 e2 e3 e4
  exact wpS_of_wp (wp_mono (hE _ _ _ _ _ _ h1 g w a hR hT) fun e a' w' hp => hp.toS hm)
theorem wpS_mono {c : Code} {Q Q' : Exit → Act → List Frame → World → Prop} {a : Act} {cs : List Frame} {w : World} (h : c.wpS P Q a cs w) (hq : ∀ e a cs w, Q e a cs w → Q' e a cs w) : c.wpS P Q' a cs w :=
  fun b k hb hr => let ⟨e, a', cs', w', q, r⟩ := h b k hb hr; ⟨e, a', cs', w', hq _ _ _ _ q, r⟩
theorem wpS_rec {id : Nat} {ops : Array Oper} {o : Oper} {rest : List Oper} (ho : ops.toList = o :: rest) (hrec : isRec o = true) {Q : Exit → Act → List Frame → World → Prop} {a : Act} {c0 : Frame} {cs : List Frame} {w : World} {u : Value} {cs1 : List Frame}
    (hu : match recoverD (c0 :: cs) with
      | some (v, cs') => v = u ∧ cs' = cs1
      | none => u = .nilIface ∧ cs1 = c0 :: cs)
    (h : wpListIn (Fr none) 0 P ops (fun e a' w' => Q e a' cs1 w') rest (a.put o.dst u) w) : (Code.region id ops false).wpS P Q a (c0 :: cs) w := by
  intro b k hb hro
  have h0 : ops[0]? = some o := by rw [← Array.getElem?_toList, ho]; rfl
  have hsz : ops.size = rest.length + 1 := by rw [← Array.length_toList, ho]; rfl
  have hop : (∃ args ats, o.op = .call { callee := .builtin .recover, args := args, argTypes := ats }) ∧ o.guard = none := by
    unfold isRec at hrec
    split at hrec
    · rename_i x1 x2 h1 h2; exact ⟨⟨_, _, h1⟩, h2⟩
    · cases hrec
  obtain ⟨⟨args, ats, hop⟩, hg⟩ := hop
  have hw : Region.wanted o (yielded ops a.tmps) = true := by simp [Region.wanted, hg]
  have hrange : List.range ops.size = 0 :: List.range' 1 rest.length := by rw [hsz, List.range_eq_range', List.range'_succ]
  have hl : wpOpsIn (Fr none) 0 P ops (fun e a' w' => Q e a' cs1 w') (List.range' 1 rest.length) (a.put o.dst u) w := by
    rw [wpOpsIn_eq_wpListIn rest 1 (fun j => by rw [← Array.getElem?_toList, ho, Nat.add_comm, List.getElem?_cons_succ])]
    exact h
  obtain ⟨e, a', w', q, harr⟩ := wp_opsIn _ _ _ hl { b with roundOf := none } k cs1 rfl trivial (fr_room _ _)
  rw [Frame.atR_of_none rfl] at harr
  replace harr : Arrives P (lone (b.at (a.put o.dst u) (.inRegion ops (List.range' 1 rest.length) :: k)) cs1 w) b k cs1 e a' w' := (arrivesIn_iff (b := { b with roundOf := none }) (fun _ _ => stepsIn_fr) rfl).1 harr
  refine ⟨e, a', cs1, w', q, .of_steps (.head (step_region (id := id)) (.one ?_)) harr⟩
  rw [hrange]
  have hst := stepG_op (P := P) (b := b) (k := k) (cs := c0 :: cs) (w := w) (rest := List.range' 1 rest.length) h0 hw
  have hfin : ∀ v, (b.at a (.inRegion ops (0 :: List.range' 1 rest.length) :: k)).finish v = b.at (a.put o.dst v) (.inRegion ops (List.range' 1 rest.length) :: k) := by
    intro v; rw [Frame.finish_at, h0]; rfl
  have hk : (b.at a (.inRegion ops (0 :: List.range' 1 rest.length) :: k)).kind = .deferred := hb
  have htr := tryRecover_deferred hk (c0 :: cs)
  have hrun : (execOp a.eval o).run P w = .ok .recover w := by
    simp only [execOp, hop, resolve, invoke]
    simp [builtin]
  refine step_lone_go ?_
  rw [hst]
  cases hc : recoverD (c0 :: cs) with
  | none =>
    rw [hc] at hu htr
    obtain ⟨rfl, rfl⟩ := hu
    rw [← hfin]
    simp only [Frame.at] at htr ⊢
    simp [stepG.apply, hrun, htr]
  | some p =>
    obtain ⟨v, cs'⟩ := p
    rw [hc] at hu htr
    obtain ⟨rfl, rfl⟩ := hu
    rw [← hfin]
    simp only [Frame.at] at htr ⊢
    simp [stepG.apply, hrun, htr]
theorem codeS_ok {E : RunC} {O : RunO} (hE : SoundE P base w0 E) (hO : SoundO P base w0 O) : ∀ (c : Code) {tmps : List V} {m : Pn} {σ : St} {x : VX} {t : List V} {m' : Pn} {σ' : St}, codeS E O c tmps m σ = some (x, t, m', σ') → ∀ (g : Gh) (w : World) (a : Act) (c0 : Frame) (cs : List Frame), Rel base w0 g σ w → VRs g σ.toks w tmps a.tmps.toList → PnR g σ.toks w m c0.mode →
    c.wpS P (PostS base w0 g σ w c0 cs a x t m' σ') a (c0 :: cs) w
  | .region i ops true, tmps, m, σ, x, t, m', σ', h, g, w, a, c0, cs, hR, hT, hm => codeS_other hE (by simpa only [codeS] using h) hR hT hm
  | .region i ops false, tmps, m, σ, x, t, m', σ', h, g, w, a, c0, cs, hR, hT, hm => by
    rw [codeS] at h
    split at h
    · rename_i o rest ho
      split at h
      · rename_i hr
        obtain ⟨⟨x2, t2, s2⟩, h3, h4⟩ := map_split h
        injection h4 with e1 h4
        injection h4 with e2 h4
        injection h4 with e3 e4
        subst e1 e2 e3 e4
        obtain ⟨u, u', k1, k2, k3⟩ := recV_ok (cs := cs) hm
        refine wpS_rec (cs1 := { c0 with mode := u' } :: cs) (u := u) ho hr ?_ ?_
        · split at k3
          · exact k3
          · obtain ⟨e1, e2⟩ := k3
            subst e2
            exact ⟨e1, rfl⟩
        · refine hO _ _ _ _ _ _ _ h3 g w (a.put o.dst u) hR (vput_ok hT k2 o.dst) _ fun e a' w' hp => ?_
          obtain ⟨g', h1, h2, h3, h4, h5⟩ := hp
          exact ⟨g', u', rfl, h1, h2, h3, h4, h5.trans (put_defers' a o.dst u), k1.ext h1⟩
      · exact codeS_other hE h hR hT hm
    · cases h
  | .seq a b, tmps, m, σ, x, t, m', σ', h, g, w, a0, c0, cs, hR, hT, hm => by
    rw [codeS] at h
    refine wpS_seq ?_
    split at h
    · rename_i t1 m1 σ1 h1
      refine wpS_mono (codeS_ok hE hO a h1 g w a0 c0 cs hR hT hm) fun e a' cs' w' hp => ?_
      obtain ⟨g', u', rfl, hE1, hR1, hxo, hT1, hd, hm1⟩ := hp
      replace hT1 := hT1.resolve_left (fun ⟨_, h9, _⟩ => by cases h9)
      simp only [XOk] at hxo
      subst hxo
      refine wpS_mono (codeS_ok hE hO b h g' w' a' { c0 with mode := u' } cs hR1 hT1 hm1) fun e2 a2 cs2 w2 hp2 => ?_
      obtain ⟨g2, u2, rfl, hE2, hR2, hxo2, hT2, hd2, hm2⟩ := hp2
      exact ⟨g2, u2, rfl, hE1.trans hE2, hR2, hxo2, hT2, hd2.trans hd, hm2⟩
    · rename_i hne
      refine wpS_mono (codeS_ok hE hO a h g w a0 c0 cs hR hT hm) fun e a' cs' w' hp => ?_
      have hp2 := hp
      obtain ⟨g', u', rfl, hE1, hR1, hxo, _⟩ := hp
      cases x with
      | normal => exact absurd h (hne _ _ _)
      | exit id => simp only [XOk] at hxo; subst hxo; exact hp2
      | ret => simp only [XOk] at hxo; subst hxo; exact hp2
      | pan v => obtain ⟨u, rfl, _⟩ := hxo; exact hp2
  | .cond c a b, tmps, m, σ, x, t, m', σ', h, g, w, a0, c0, cs, hR, hT, hm => by
    rw [codeS] at h
    split at h
    · rename_i hc
      have := evs_ok hT hc
      simp only [VR] at this
      exact wpS_cond this (codeS_ok hE hO a h g w a0 c0 cs hR hT hm)
    · rename_i hc
      have := evs_ok hT hc
      simp only [VR] at this
      exact wpS_cond this (codeS_ok hE hO b h g w a0 c0 cs hR hT hm)
    · cases h
  | .skip, tmps, m, σ, x, t, m', σ', h, g, w, a, c0, cs, hR, hT, hm => codeS_other hE (by simpa only [codeS] using h) hR hT hm
  | .label l, tmps, m, σ, x, t, m', σ', h, g, w, a, c0, cs, hR, hT, hm => codeS_other hE (by simpa only [codeS] using h) hR hT hm
  | .exit i, tmps, m, σ, x, t, m', σ', h, g, w, a, c0, cs, hR, hT, hm => codeS_other hE (by simpa only [codeS] using h) hR hT hm
  | .ret, tmps, m, σ, x, t, m', σ', h, g, w, a, c0, cs, hR, hT, hm => codeS_other hE (by simpa only [codeS] using h) hR hT hm
  | .block i c, tmps, m, σ, x, t, m', σ', h, g, w, a, c0, cs, hR, hT, hm => codeS_other hE (by simpa only [codeS] using h) hR hT hm
  | .loop c, tmps, m, σ, x, t, m', σ', h, g, w, a, c0, cs, hR, hT, hm => codeS_other hE (by simpa only [codeS] using h) hR hT hm
  | .rangeFunc f ps as_ b, tmps, m, σ, x, t, m', σ', h, g, w, a, c0, cs, hR, hT, hm => codeS_other hE (by simpa only [codeS] using h) hR hT hm
  | .scope c, tmps, m, σ, x, t, m', σ', h, g, w, a, c0, cs, hR, hT, hm => codeS_other hE (by simpa only [codeS] using h) hR hT hm
  | .goto l, tmps, m, σ, x, t, m', σ', h, g, w, a, c0, cs, hR, hT, hm => codeS_other hE (by simpa only [codeS] using h) hR hT hm
  | .refuse y, tmps, m, σ, x, t, m', σ', h, g, w, a, c0, cs, hR, hT, hm => codeS_other hE (by simpa only [codeS] using h) hR hT hm
theorem results_ok {g1 : Gh} {σ1 : St} {w1 : World} {tmps1 : List V} {a1 : Array Value} {fn : Func} {rs : List V} (hR1 : Rel base w0 g1 σ1 w1) (hT1 : VRs g1 σ1.toks w1 tmps1 a1.toList) (h : vresults P σ1 tmps1 fn.results.toList = some rs) :
    ∃ v, (results fn a1).run P w1 = .ok v w1 ∧ VR g1 σ1.toks w1 (vtuple rs) v := by
  obtain ⟨xs, hxs, hrun⟩ := vresults_ok hR1 hT1 h
  have hres : (results fn a1).run P w1 = .ok (if h : xs.toArray.size = 1 then xs.toArray[0] else .tuple xs.toArray) w1 := by
    have h2 : (fn.results.mapM (fun r => resF a1 r) : Sem (Array Value)).run P w1 = .ok xs.toArray w1 := by
      rw [Array.mapM_eq_mapM_toList, Sem.run_map]
      rw [show (fn.results.toList.mapM (fun r => resF a1 r)).run P w1 = .ok xs w1 from hrun]
      rfl
    show ((fn.results.mapM (fun r => resF a1 r) : Sem (Array Value)) >>= fun vs => pure (if h : vs.size = 1 then vs[0] else .tuple vs)).run P w1 = _
    rw [Sem.run_bind, h2]
    rfl
  exact ⟨_, hres, vtuple_ok hxs⟩
theorem frame_ok {g : Gh} {s : List Bool} {w : World} {vs : List V} {us : Array Value} (hV : VRs g s w vs us.toList) (n : Nat) : VRs g s w (vs ++ List.replicate (n - vs.length) (.tuple [])) (us ++ Array.replicate (n - us.size) undef).toList := by
  have hl := hV.length
  simp only [Array.toList_append, Array.toList_replicate]
  rw [← Array.length_toList, ← hl]
  exact hV.append (VRs.replicate undef_ok _)
theorem defOne_ok {E : RunC} {O : RunO} (hE : SoundE P base w0 E) (hO : SoundO P base w0 O) {f : FuncId} {vs : List V} {m : Pn} {σ : St} {m' : Pn} {σ' : St} (h : defOne P E O f vs m σ = some (m', σ')) {g : Gh} {w : World} {args : Array Value} {u : FrameMode} (hR : Rel base w0 g σ w) (hV : VRs g σ.toks w vs args.toList) (hm : PnR g σ.toks w m u) :
    (callFunc f args).run P w = .ok (.enter f args) w ∧ CallsD P f args u w fun e u' w' => ∃ v, e = .returned v ∧ ∃ g', Ext g σ.toks w g' σ'.toks w' ∧ Rel base w0 g' σ' w' ∧ PnR g' σ'.toks w' m' u' := by
  unfold defOne at h
  split at h
  · rename_i fn hfn
    split at h
    · rename_i c hc
      split at h
      · rename_i hk
        split at h
        · rename_i x t m1 s1 hx
          split at h
          · rename_i hends
            obtain ⟨rs, hrs, e1⟩ := map_split h
            injection e1 with e1 e2
            subst e1 e2
            refine ⟨?_, callsD_of_wpS hfn hc fun c0 cs hcm => ?_⟩
            · have hk2 : fn.name ≠ "runtime.NumGoroutine" := by simpa [fnOk] using hk
              simp [callFunc, hfn, hc, hk2]
            · subst hcm
              refine wpS_mono (codeS_ok hE hO c hx g w { tmps := args ++ Array.replicate (fn.ntmps - args.size) undef, defers := [] } c0 cs hR (frame_ok hV _) hm) fun e a1 cs1 w1 hp => ?_
              obtain ⟨g1, u1, rfl, hE1, hR1, hxo, hT1, hd, hm1⟩ := hp
              have fin : ∀ (hT2 : VRs g1 s1.toks w1 t a1.tmps.toList), a1.defers = [] ∧ ∃ u', ({ c0 with mode := u1 } :: cs : List Frame) = { c0 with mode := u' } :: cs ∧ ∃ v, (results fn a1.tmps).run P w1 = .ok v w1 ∧ ∃ v', Ending.returned v = .returned v' ∧ ∃ g', Ext g σ.toks w g' s1.toks w1 ∧ Rel base w0 g' s1 w1 ∧ PnR g' s1.toks w1 m1 u' := by
                intro hT2
                obtain ⟨v, hv, _⟩ := results_ok hR1 hT2 hrs
                exact ⟨hd, u1, rfl, v, hv, v, rfl, g1, hE1, hR1, hm1⟩
              cases x with
              | normal =>
                simp only [XOk] at hxo
                subst hxo
                exact fin (hT1.resolve_left (fun ⟨_, h9, _⟩ => by cases h9))
              | ret =>
                simp only [XOk] at hxo
                subst hxo
                exact fin (hT1.resolve_left (fun ⟨_, h9, _⟩ => by cases h9))
              | exit i => cases hends
              | pan v => cases hends
          · cases h
        · cases h
      · cases h
    · cases h
  · cases h
theorem leaveD_ok {E : RunC} {O : RunO} (hE : SoundE P base w0 E) (hO : SoundO P base w0 O) {fn : Func} {tmps : Array Value} {R : Ending → World → Prop} : ∀ {ds : Ds} {m : Pn} {σ : St} {m' : Pn} {σ' : St}, leaveD P E O ds m σ = some (m', σ') → ∀ {g : Gh} {w : World} {dv : List Deferred} {u : FrameMode}, Rel base w0 g σ w → DsR g σ.toks w ds dv → PnR g σ.toks w m u →
    (∀ g' w' u', Ext g σ.toks w g' σ'.toks w' → Rel base w0 g' σ' w' → PnR g' σ'.toks w' m' u' → Leaves P fn tmps R [] u' w') → Leaves P fn tmps R dv u w
  | [], m, σ, m', σ', h, g, w, dv, u, hR, hd, hm, hk => by
    simp only [leaveD] at h
    injection h with h
    injection h with e1 e2
    subst e1 e2
    simp only [DsR] at hd
    subst hd
    exact hk g w u (Ext.refl _ _ _) hR hm
  | (f, vs) :: ds, m, σ, m', σ', h, g, w, dv, u, hR, hd, hm, hk => by
    simp only [leaveD] at h
    split at h
    · rename_i m1 s1 h1
      obtain ⟨caps, args, dv', rfl, hV, hds⟩ := hd
      obtain ⟨hc, hcall⟩ := defOne_ok hE hO h1 hR hV hm
      refine leaves_cons (f := f) (args := args ++ caps) hm.run (by simpa [invoke] using hc) (hcall.mono fun e u1 w1 hp => ?_)
      obtain ⟨v, rfl, g1, hE1, hR1, hm1⟩ := hp
      exact leaveD_ok hE hO h hR1 (hds.ext hE1) hm1.settle fun g2 w2 u2 hE2 hR2 hm2 => hk g2 w2 u2 (hE1.trans hE2) hR2 hm2
    · cases h
theorem callD_ok {E : RunC} {O : RunO} (hE : SoundE P base w0 E) (hO : SoundO P base w0 O) {f : FuncId} {fn : Func} {c : Code} (hfn : P.funcs[f]? = some fn) (hc : fn.body = some c) {vs : List V} {σ : St} {r : VRes} {σ' : St}
    (h : callD P E O fn c (vs ++ List.replicate (fn.ntmps - vs.length) (.tuple [])) σ = some (r, σ')) : CallOk P base w0 f vs σ r σ' := by
  intro g w us hR hV
  unfold callD at h
  split at h
  · rename_i x t σ1 ds hx
    split at h
    · rename_i m hst
      have key : ∀ {e : Exit} {a1 : Act} {w1 : World} {g1 : Gh} {dv : List Deferred} {u : FrameMode}, Ext g σ.toks w g1 σ1.toks w1 → Rel base w0 g1 σ1 w1 → VRs g1 σ1.toks w1 t a1.tmps.toList → a1.defers = dv → DsR g1 σ1.toks w1 ds dv → PnR g1 σ1.toks w1 m u →
          Leaves P fn a1.tmps (fun e w' => ∃ g', Ext g σ.toks w g' σ'.toks w' ∧ Rel base w0 g' σ' w' ∧ EOk g' σ'.toks w' r e) dv u w1 := by
        intro e a1 w1 g1 dv u hE1 hR1 hT1 hd hds hm
        split at h
        · rename_i σ2 hl
          obtain ⟨rs, hrs, e1⟩ := map_split h
          injection e1 with e1 e2
          subst e1 e2
          refine leaveD_ok hE hO hl hR1 hds hm fun g2 w2 u2 hE2 hR2 hm2 => ?_
          simp only [PnR] at hm2
          subst hm2
          obtain ⟨v, hv, hV2⟩ := results_ok hR2 (VRs.ext hE2 _ hT1) hrs
          exact ⟨v, hv, g2, hE1.trans hE2, hR2, v, rfl, hV2⟩
        · rename_i v σ2 hl
          injection h with h
          injection h with e1 e2
          subst e1 e2
          refine leaveD_ok hE hO hl hR1 hds hm fun g2 w2 u2 hE2 hR2 hm2 => ?_
          obtain ⟨y, rfl, hy⟩ := hm2
          exact ⟨g2, hE1.trans hE2, hR2, y, rfl, hy⟩
        · cases h
      have hbody := codeD_ok hE hO c hx g w { tmps := us.toArray ++ Array.replicate (fn.ntmps - us.toArray.size) undef, defers := [] } hR (frame_ok (by simpa using hV) _)
      refine calls_of_wp_defers hfn hc (wp_mono hbody fun e a1 w1 hp => ?_)
      obtain ⟨g1, hE1, hR1, hxo, hT1, dv, hdv, hds⟩ := hp
      rw [List.append_nil] at hdv
      cases x with
      | normal =>
        simp only [XOk] at hxo
        subst hxo
        simp only [startD] at hst
        injection hst with hst
        subst hst
        show Leaves _ _ _ _ a1.defers _ _
        rw [hdv]
        exact key (e := .normal) hE1 hR1 (hT1.resolve_left (fun ⟨_, h9, _⟩ => by cases h9)) hdv hds rfl
      | ret =>
        simp only [XOk] at hxo
        subst hxo
        simp only [startD] at hst
        injection hst with hst
        subst hst
        show Leaves _ _ _ _ a1.defers _ _
        rw [hdv]
        exact key (e := .ret) hE1 hR1 (hT1.resolve_left (fun ⟨_, h9, _⟩ => by cases h9)) hdv hds rfl
      | exit i => cases hst
      | pan v =>
        obtain ⟨y, rfl, hy⟩ := hxo
        simp only [startD] at hst
        split at hst
        · cases hst
        · rename_i hne
          injection hst with hst
          subst hst
          have hT2 := hT1.resolve_left (fun ⟨_, _, h9⟩ => by rw [h9] at hne; exact hne rfl)
          show Leaves _ _ _ _ a1.defers _ _
          rw [hdv]
          exact key (e := .normal) hE1 hR1 hT2 hdv hds ⟨y, rfl, hy⟩
    · cases h
  · cases h
theorem hopsV_ok {hot : Oper → Bool} {ops : Array Oper} {C : Oper → List V → St → Option Out} (hC : ∀ o tmps σ out, C o tmps σ = some out → OutOk P base w0 ops o tmps σ out) : ∀ {l : List Oper} {tmps : List V} {σ : St} {x : VX} {tmps' : List V} {σ' : St}, hopsV P hot C ops l tmps σ = some (x, tmps', σ') → ∀ (g : Gh) (w : World) (a : Act), Rel base w0 g σ w → VRs g σ.toks w tmps a.tmps.toList →
      ∀ Q : Exit → Act → World → Prop, (∀ e a' w', Post base w0 g σ w a x tmps' σ' e a' w' → Q e a' w') → ∀ ro, wpListIn (Fr ro) 0 P ops Q l a w := by
  intro l
  induction l with
  | nil =>
    intro tmps σ x tmps' σ' h g w a hR hT Q hQ ro
    simp only [hopsV] at h
    injection h with h
    injection h with h1 h2
    injection h2 with h2 h3
    subst h1 h2 h3
    exact wpListIn_nil (hQ _ _ _ ⟨g, Ext.refl _ _ _, hR, rfl, .inr hT, rfl⟩)
  | cons o rest ih =>
    intro tmps σ x tmps' σ' h g w a hR hT Q hQ ro
    simp only [hopsV] at h
    show wpOper ro P ops Q o (wpListIn (Fr ro) 0 P ops Q rest) a w
    have next : ∀ {v : V} {σ1 : St}, hopsV P hot C ops rest (vput tmps o.dst v) σ1 = some (x, tmps', σ') → ∀ g' w' u, Ext g σ.toks w g' σ1.toks w' → Rel base w0 g' σ1 w' → VR g' σ1.toks w' v u → wpListIn (Fr ro) 0 P ops Q rest (a.put o.dst u) w' := by
      intro v σ1 h g' w' u hE hR1 hV
      exact ih h g' w' (a.put o.dst u) hR1 (vput_ok (VRs.ext hE _ hT) hV o.dst) Q (fun e a' w'' hpost => hQ e a' w'' (hpost.trans hE (put_defers' a o.dst u))) ro
    split at h
    · rename_i hc
      simp only [Bool.and_eq_true] at hc
      split at h
      · rename_i v σ1 hv
        obtain ⟨nx, u, w1, g1, hrun, hnx, hE, hR1, hV⟩ := vhot_ok (o := o) hR hT hv
        refine wpOper_run (by rw [← vwant_ok hT ops o]; exact hc.2) (fun c hc' => by rw [hc'] at hv; simp [vhot] at hv) hrun ?_
        rcases hnx with rfl | ⟨rfl, rfl⟩
        · exact next h g1 w1 u hE hR1 hV
        · exact next h g1 w1 undef hE hR1 hV
      · cases h
    · split at h
      · rename_i v σ1 hc
        exact hC _ _ _ _ hc g w a hR hT Q _ (fun g' w' u hE hR1 hV => next h g' w' u hE hR1 hV) ro
      · rename_i v σ1 hc
        injection h with h
        injection h with h1 h2
        injection h2 with h2 h3
        subst h1 h2 h3
        refine hC _ _ _ _ hc g w a hR hT Q _ (fun g' w' u hE hR1 hV => ?_) ro
        exact hQ _ _ _ ⟨g', hE, hR1, ⟨u, rfl, hV⟩, .inr (VRs.ext hE _ hT), rfl⟩
      · cases h
def mark (D : Nat) : Deferred := { target := .collected D, args := #[] }
def Mks (base : Nat) (w w' : World) (d0 d1 : List Deferred) : Prop := ∃ Ds : List Nat, d1 = Ds.map mark ++ d0 ∧ Ds.Nodup ∧ ∀ D ∈ Ds, ((∀ x, w.heap[D]? = some (.deferred x) → False) ∧ base ≤ D) ∧ w'.heap[D]? = some (.deferred (some []))
def Dfs (base : Nat) : Bool → World → World → List Deferred → List Deferred → Prop
  | false, _, _, d0, d1 => d1 = d0
  | true, w, w', d0, d1 => Mks base w w' d0 d1
theorem Dfs.of_eq {b : Bool} {w w' : World} {d0 d1 : List Deferred} (h : d1 = d0) : Dfs base b w w' d0 d1 := by
  cases b with
  | false => exact h
  | true => subst h; exact ⟨[], rfl, List.nodup_nil, fun D h => by cases h⟩
theorem Dfs.up {b b' : Bool} {w w' : World} {d0 d1 : List Deferred} (h : Dfs base b w w' d0 d1) (hb : b = true → b' = true) : Dfs base b' w w' d0 d1 := by
  cases b with
  | false => exact Dfs.of_eq h
  | true => rw [hb rfl]; exact h
theorem Dfs.trans {b : Bool} {g g1 g2 : Gh} {s s1 s2 : List Bool} {w w1 w2 : World} {d0 d1 d2 : List Deferred} (h1 : Dfs base b w w1 d0 d1) (h2 : Dfs base b w1 w2 d1 d2) (E1 : Ext g s w g1 s1 w1) (E2 : Ext g1 s1 w1 g2 s2 w2) : Dfs base b w w2 d0 d2 := by
  cases b with
  | false => exact (show d2 = d1 from h2).trans h1
  | true =>
    obtain ⟨D1, e1, n1, p1⟩ := h1
    obtain ⟨D2, e2, n2, p2⟩ := h2
    refine ⟨D2 ++ D1, by rw [e2, e1]; simp, List.nodup_append.2 ⟨n2, n1, fun a ha b hb e => ?_⟩, fun D hD => ?_⟩
    · subst e; exact (p2 a ha).1.1 _ (p1 a hb).2
    · rcases List.mem_append.1 hD with h | h
      · exact ⟨⟨fun x hx => (p2 D h).1.1 x (E1.dfr _ _ hx), (p2 D h).1.2⟩, (p2 D h).2⟩
      · exact ⟨(p1 D h).1, E2.dfr _ _ (p1 D h).2⟩
def PostR (b : Bool) (base : Nat) (w0 : World) (g : Gh) (σ : St) (w : World) (a : Act) (x : VX) (tmps' : List V) (σ' : St) (e : Exit) (a' : Act) (w' : World) : Prop :=
  ∃ g', Ext g σ.toks w g' σ'.toks w' ∧ Rel base w0 g' σ' w' ∧ XOk g' σ'.toks w' x e ∧ ((∃ v, x = .pan v ∧ tmps' = []) ∨ VRs g' σ'.toks w' tmps' a'.tmps.toList) ∧ Dfs base b w w' a.defers a'.defers
theorem PostR.up {b b' : Bool} {g : Gh} {σ : St} {w : World} {a : Act} {x : VX} {tmps' : List V} {σ' : St} {e : Exit} {a' : Act} {w' : World} (h : PostR b base w0 g σ w a x tmps' σ' e a' w') (hb : b = true → b' = true) : PostR b' base w0 g σ w a x tmps' σ' e a' w' :=
  let ⟨g', h1, h2, h3, h4, h5⟩ := h; ⟨g', h1, h2, h3, h4, h5.up hb⟩
theorem PostR.trans {b : Bool} {g g1 : Gh} {σ σ1 σ' : St} {w w1 : World} {a a1 : Act} {x : VX} {tmps' : List V} {e : Exit} {a' : Act} {w' : World} (hE : Ext g σ.toks w g1 σ1.toks w1) (hd : Dfs base b w w1 a.defers a1.defers)
    (h : PostR b base w0 g1 σ1 w1 a1 x tmps' σ' e a' w') : PostR b base w0 g σ w a x tmps' σ' e a' w' := by
  obtain ⟨g', h1, h2, h3, h4, h5⟩ := h
  exact ⟨g', hE.trans h1, h2, h3, h4, hd.trans h5 hE h1⟩
theorem lpSet_ok {g : Gh} {s : List Bool} {w : World} : ∀ {ps : List Tmp} {vs tm : List V} {us : List Value} {ts : Array Value}, VRs g s w tm ts.toList → VRs g s w vs us → VRs g s w ((ps.zip vs).foldl (fun t p => t.set p.1 p.2) tm) ((ps.zip us).foldl (fun (t : Array Value) (p : Tmp × Value) => t.setIfInBounds p.1 p.2) ts).toList
  | [], vs, tm, us, ts, h, hv => by simpa using h
  | p :: ps, [], tm, us, ts, h, hv => by simp only [VRs] at hv; subst hv; simpa using h
  | p :: ps, v :: vs, tm, us, ts, h, hv => by
    simp only [VRs] at hv
    obtain ⟨u, us', rfl, h1, h2⟩ := hv
    simp only [List.zip_cons_cons, List.foldl_cons]
    exact lpSet_ok (by simpa using h.set p h1) h2
theorem lpOut_ok {r : Nat} {tm : List V} {σ : St} {x : VX} {t : List V} {σ' : St} (h : lpOut r tm σ = some (x, t, σ')) {g : Gh} {w : World} (hR : Rel base w0 g σ w) {a : Act} {Q : Exit → Act → World → Prop}
    (hQ : ∀ e w', Ext g σ.toks w g σ'.toks w' → Rel base w0 g σ' w' → t = tm → (∀ g s w, XOk g s w x e) → Q e a w') :
    ∃ jump w', (Instr.endLoop (g.ρ r)).run P w = .ok jump w' ∧ (match jump with | none => Q .normal a w' | some c => c.wpIn (Fr none) 0 P Q a w') := by
  have fin : ∀ {o : Ob} {rec : Loop}, σ.objs[r]? = some o → (∀ h : o.gone, False) → base ≤ g.ρ r → g.L (g.ρ r) = 0 → w.heap[g.ρ r]? = some (.loop rec) → rec.state ≠ .busy → σ' = ⟨σ.objs.set r .dead, σ.toks⟩ →
      ∃ w', (Instr.endLoop (g.ρ r)).run P w = .ok rec.pending w' ∧ Ext g σ.toks w g σ'.toks w' ∧ Rel base w0 g σ' w' := by
    intro o rec ho hd hb hL hh hs e
    subst e
    obtain ⟨E, R⟩ := hR.loopSet ho hd hb hL hh { rec with state := .exhausted } .dead (by intro h; cases h) (fun _ _ => trivial)
    exact ⟨_, run_endLoop hh hs, E, R⟩
  unfold lpOut at h
  split at h
  · rename_i tm2 ps asg body ho
    injection h with h; injection h with h1 h; injection h with h2 h3
    subst h1 h2
    obtain ⟨hb, hL, fn, df, us, hh, _⟩ := hR.obj _ _ ho
    obtain ⟨w', hr, E, R⟩ := fin ho (fun h => by cases h) hb hL hh (by simp) h3.symm
    exact ⟨_, w', hr, hQ .normal w' E R rfl (fun _ _ _ => rfl)⟩
  · rename_i ho
    injection h with h; injection h with h1 h; injection h with h2 h3
    subst h1 h2
    obtain ⟨hb, hL, rec, hh, hs, hpd⟩ := hR.obj _ _ ho
    obtain ⟨w', hr, E, R⟩ := fin ho (fun h => by cases h) hb hL hh (by rw [hs]; simp) h3.symm
    rw [hpd] at hr
    exact ⟨_, w', hr, wpIn_ret (hQ .ret w' E R rfl (fun _ _ _ => rfl))⟩
  · rename_i id ho
    injection h with h; injection h with h1 h; injection h with h2 h3
    subst h1 h2
    obtain ⟨hb, hL, rec, hh, hs, hpd⟩ := hR.obj _ _ ho
    obtain ⟨w', hr, E, R⟩ := fin ho (fun h => by cases h) hb hL hh (by rw [hs]; simp) h3.symm
    rw [hpd] at hr
    exact ⟨_, w', hr, wpIn_exit (hQ (.exit id) w' E R rfl (fun _ _ _ => rfl))⟩
  · cases h
theorem lpEnd_ok {r : Nat} {x : VX} {σ : St} {v : V} {σ' : St} (h : lpEnd r x σ = some (v, σ')) {g : Gh} {w : World} (hR : Rel base w0 g σ w) {e : Exit} (hx : ∃ g s w, XOk g s w x e) {a : Act} {R : Ending → World → Prop}
    (hQ : ∀ w' u, Ext g σ.toks w g σ'.toks w' → Rel base w0 g σ' w' → VR g σ'.toks w' v u → R (.returned u) w') : roundPost P (g.ρ r) R e a w := by
  obtain ⟨gx, sx, wx, hx⟩ := hx
  unfold lpEnd at h
  split at h
  · rename_i tm ps asg body ho
    obtain ⟨hb, hL, fn, df, us, hh, hvs⟩ := hR.obj _ _ ho
    cases x with
    | normal =>
      simp only at h
      injection h with h; injection h with h1 h2
      subst h1 h2
      simp only [XOk] at hx
      subst hx
      obtain ⟨E, R1⟩ := hR.loopSet ho (fun h => by cases h) hb hL hh { state := .ready, pending := none, fn := fn, tmps := us.toArray, params := ps, assign := asg, body := body, defers := df } (.lp tm ps asg body) (by intro h; cases h) (fun E hs => ⟨hb, hL, fn, df, us, hs, VRs.ext E _ hvs⟩)
      exact ⟨_, _, run_endRound none hh, hQ _ _ E R1 (by simp [VR])⟩
    | exit id =>
      simp only at h
      injection h with h; injection h with h1 h2
      subst h1 h2
      simp only [XOk] at hx
      subst hx
      obtain ⟨E, R1⟩ := hR.loopSet ho (fun h => by cases h) hb hL hh { state := .done, pending := some (.exit id), fn := fn, tmps := us.toArray, params := ps, assign := asg, body := body, defers := df } (.lpD (.exit id)) (by intro h; cases h) (fun E hs => ⟨hb, hL, _, hs, rfl, rfl⟩)
      exact ⟨_, _, run_endRound (some (.exit id)) hh, hQ _ _ E R1 (by simp [VR])⟩
    | ret =>
      simp only at h
      injection h with h; injection h with h1 h2
      subst h1 h2
      simp only [XOk] at hx
      subst hx
      obtain ⟨E, R1⟩ := hR.loopSet ho (fun h => by cases h) hb hL hh { state := .done, pending := some .ret, fn := fn, tmps := us.toArray, params := ps, assign := asg, body := body, defers := df } (.lpD .ret) (by intro h; cases h) (fun E hs => ⟨hb, hL, _, hs, rfl, rfl⟩)
      exact ⟨_, _, run_endRound (some .ret) hh, hQ _ _ E R1 (by simp [VR])⟩
    | pan v => simp only at h; cases h
  · cases h
--SNDEND
theorem leaves_marks {fn : Func} {tmps : Array Value} {R : Ending → World → Prop} {u : FrameMode} (hu : u ≠ .run) {g : Gh} {σ : St} : ∀ (Ds : List Nat) (w : World), Rel base w0 g σ w → Ds.Nodup → (∀ D ∈ Ds, base ≤ D ∧ w.heap[D]? = some (.deferred (some []))) → (∀ w', Ext0 g σ.toks w g σ.toks w' → (∀ k x, k ∉ Ds → w.heap[k]? = some (.deferred x) → w'.heap[k]? = some (.deferred x)) → Rel base w0 g σ w' → LeavesIn (Fr none) 0 P fn tmps R [] u w') →
    LeavesInM (Fr none) 0 P fn tmps R (Ds.map mark) u w
  | [], w, hR, hn, hD, h => h w (Ext.refl g σ.toks w).toExt0 (fun k x _ h => h) hR
  | D :: Ds, w, hR, hn, hD, h => by
    obtain ⟨hb, hd⟩ := hD D List.mem_cons_self
    obtain ⟨E, R1⟩ := hR.spend hd hb
    obtain ⟨hn1, hn2⟩ := List.nodup_cons.1 hn
    refine ⟨hu, .inl ⟨D, _, rfl, run_takeDeferred hd, leaves_marks hu Ds _ R1 hn2 (fun k hk => ?_) fun w' E' hk R' => h w' ?_ (fun k x hk0 hx => ?_) R'⟩⟩
    · obtain ⟨b1, b2⟩ := hD k (List.mem_cons_of_mem _ hk)
      exact ⟨b1, by rw [World.putObj_heap_other (fun e => hn1 (by rw [← e]; exact hk))]; exact b2⟩
    · exact E.trans0 E'
    · have : k ≠ D := fun e => hk0 (by rw [e]; exact List.mem_cons_self)
      exact hk k x (fun h => hk0 (List.mem_cons_of_mem _ h)) (by rw [World.putObj_heap_other this]; exact hx)
theorem sound (hp : PrimOk P pr base w0) : ∀ n,
    (∀ (ops : Array Oper) (l : List Oper) (tmps : List V) (σ : St) (x : VX) (tmps' : List V) (σ' : St), vops P pr n ops l tmps σ = some (x, tmps', σ') → ∀ (g : Gh) (w : World) (a : Act), Rel base w0 g σ w → VRs g σ.toks w tmps a.tmps.toList →
      ∀ Q : Exit → Act → World → Prop, (∀ e a' w', Post base w0 g σ w a x tmps' σ' e a' w' → Q e a' w') → ∀ ro, wpListIn (Fr ro) 0 P ops Q l a w) ∧
    (∀ (c : Code) (tmps : List V) (σ : St) (x : VX) (tmps' : List V) (σ' : St), vexec P pr n c tmps σ = some (x, tmps', σ') → ∀ (g : Gh) (w : World) (a : Act), Rel base w0 g σ w → VRs g σ.toks w tmps a.tmps.toList →
      ∀ ro, (ro = none ∨ hasRF c = false) → c.wpIn (Fr ro) 0 P (PostR (hasRF c) base w0 g σ w a x tmps' σ') a w ∧ ∀ c', c = .loop c' → LoopWp ro P c' (PostR (hasRF c) base w0 g σ w a x tmps' σ') a w) ∧
    CR P pr base w0 n := by
  intro n
  induction n using Nat.strongRecOn with
  | _ n ih =>
  cases n with
  | zero =>
    refine ⟨fun ops l tmps σ x tmps' σ' h => ?_, fun c tmps σ x tmps' σ' h => ?_, fun f vs σ r σ' h => ?_, fun r vs σ v σ' h => ?_⟩
    · simp [vops] at h
    · simp [vexec] at h
    · simp [vcall] at h
    · simp [vround] at h
  | succ n =>
    obtain ⟨ih1, ih2, ih3⟩ := ih n (Nat.lt_succ_self n)
    have ihc : ∀ (m : Nat), m < n + 1 → CR P pr base w0 m := fun m hm => (ih m hm).2.2
    refine ⟨fun ops l tmps σ x tmps' σ' h g w a hR hT Q hQ ro => ?_, fun c tmps σ x tmps' σ' h g w a hR hT ro hro => ?_, fun f vs σ r σ' h => ?_, fun r vs σ v σ' h => ?_⟩
    · cases l with
      | nil =>
        simp only [vops] at h
        injection h with h
        injection h with h1 h2
        injection h2 with h2 h3
        subst h1 h2 h3
        exact wpListIn_nil (hQ _ _ _ ⟨g, Ext.refl _ _ _, hR, rfl, .inr hT, rfl⟩)
      | cons o rest =>
        simp only [vops] at h
        show wpOper ro P ops Q o (wpListIn (Fr ro) 0 P ops Q rest) a w
        split at h
        · rename_i v σ1 hc
          cases n with
          | zero => simp [vcore] at hc
          | succ k =>
            refine core_ok hp (ihc k (by omega)) hc g w a hR hT Q _ (fun g' w' u hE hR1 hV => ?_) ro
            exact ih1 ops rest _ _ _ _ _ h g' w' (a.put o.dst u) hR1 (vput_ok (VRs.ext hE _ hT) hV o.dst) Q (fun e a' w'' hpost => hQ e a' w'' (hpost.trans hE (put_defers' a o.dst u))) ro
        · rename_i v σ1 hc
          injection h with h
          injection h with h1 h2
          injection h2 with h2 h3
          subst h1 h2 h3
          cases n with
          | zero => simp [vcore] at hc
          | succ k =>
            refine core_ok hp (ihc k (by omega)) hc g w a hR hT Q _ (fun g' w' u hE hR1 hV => ?_) ro
            exact hQ _ _ _ ⟨g', hE, hR1, ⟨u, rfl, hV⟩, .inr (VRs.ext hE _ hT), rfl⟩
        · cases h
    · have triv : ∀ {c : Code}, (∀ c', c = .loop c' → False) → c.wpIn (Fr ro) 0 P (PostR (hasRF c) base w0 g σ w a x tmps' σ') a w → c.wpIn (Fr ro) 0 P (PostR (hasRF c) base w0 g σ w a x tmps' σ') a w ∧ ∀ c', c = .loop c' → LoopWp ro P c' (PostR (hasRF c) base w0 g σ w a x tmps' σ') a w :=
        fun hne hw => ⟨hw, fun c' e => (hne c' e).elim⟩
      cases c with
      | skip =>
        simp only [vexec] at h
        injection h with h
        injection h with h1 h2
        injection h2 with h2 h3
        subst h1 h2 h3
        exact triv (fun _ e => by cases e) (wpIn_skip ⟨g, Ext.refl _ _ _, hR, rfl, .inr hT, rfl⟩)
      | label l =>
        simp only [vexec] at h
        injection h with h
        injection h with h1 h2
        injection h2 with h2 h3
        subst h1 h2 h3
        exact triv (fun _ e => by cases e) (wpIn_label ⟨g, Ext.refl _ _ _, hR, rfl, .inr hT, rfl⟩)
      | exit id =>
        simp only [vexec] at h
        injection h with h
        injection h with h1 h2
        injection h2 with h2 h3
        subst h1 h2 h3
        exact triv (fun _ e => by cases e) (wpIn_exit ⟨g, Ext.refl _ _ _, hR, rfl, .inr hT, rfl⟩)
      | ret =>
        simp only [vexec] at h
        injection h with h
        injection h with h1 h2
        injection h2 with h2 h3
        subst h1 h2 h3
        exact triv (fun _ e => by cases e) (wpIn_ret ⟨g, Ext.refl _ _ _, hR, rfl, .inr hT, rfl⟩)
      | region id ops draw =>
        cases draw with
        | false =>
          simp only [vexec] at h
          split at h
          · refine triv (fun _ e => by cases e) (wpIn_region_list (hopsV_ok (C := fun o t s => vcore P pr n ops o t s) (fun o tmps σ out hc => ?_) h g w a hR hT _ (fun _ _ _ hp => hp) ro))
            cases n with
            | zero => simp [vcore] at hc
            | succ k => exact core_ok hp (ihc k (by omega)) hc
          · exact triv (fun _ e => by cases e) (wpIn_region_list (ih1 ops _ _ _ _ _ _ h g w a hR hT _ (fun _ _ _ hp => hp) ro))
        | true =>
          simp only [vexec] at h
          split at h
          · rename_i hcond
            simp only [Bool.and_eq_true] at hcond
            obtain ⟨⟨hm, hds⟩, hst⟩ := hcond
            have hD := dStatic_spec hds
            refine triv (fun _ e => by cases e) (wpIn_region_any hm ?_)
            have main : ∀ {y : VX} {ts : List V} {S1 : St}, vops P pr n ops ops.toList tmps σ = some (y, ts, S1) → (∀ v, y = .pan v → lastOk ops ((vtrace P pr n ops ops.toList tmps σ).length - 1) = true) → (y = .normal ∨ ∃ v, y = .pan v) → x = y → σ' = S1 → (y = .normal → tmps' = ts) → ((∃ v, y = .pan v) → tmps' = []) →
                wpAnyIn (Fr ro) 0 P .any ops (Post base w0 g σ w a x tmps' σ') ops.size (Array.replicate ops.size false) a { w with drawn := w.drawn + 1 } := by
              intro y ts S1 hv hlast hy hx hS1 htn htp
              subst hx hS1
              obtain ⟨s, h1, h2, h3, h4, h5⟩ := trace_spec n hv
              have hget : ∀ {k : Nat} {p : List V × St}, (vtrace P pr n ops ops.toList tmps σ)[k]? = some p → ((vtrace P pr n ops ops.toList tmps σ)[k]?.getD ([], σ)) = p := fun h => by rw [h]; rfl
              have hTr : Tr P pr n ops x ts σ' s (fun k => ((vtrace P pr n ops ops.toList tmps σ)[k]?.getD ([], σ)).1) (fun k => ((vtrace P pr n ops ops.toList tmps σ)[k]?.getD ([], σ)).2) := by
                refine ⟨by simpa using h2, fun k hk => ?_, ?_, fun i o hi ho hl hw hwt => ?_⟩
                · obtain ⟨o, m, v, T1, S2, S3, g1, g2, g3, g4, g5⟩ := h4 k hk
                  refine ⟨o, m, v, by simpa using g1, g2, ?_, ?_⟩
                  · rw [hget g3, hget g5]; exact g4
                  · simp only [hget g3, hget g5]
                · rcases h5 with ⟨e1, e2, e3⟩ | ⟨v, o, m, T1, S2, e1, e2, e3, e4, e5⟩
                  · exact .inl ⟨e1, by simpa using e2, by simp only [hget e3], by simp only [hget e3]⟩
                  · refine .inr ⟨v, o, m, e1, e2, by simpa using e3, ?_, ?_⟩
                    · have := hlast v e1
                      rw [h1] at this
                      exact this
                    · simp only [hget e4]; exact e5
                · obtain ⟨q, hq⟩ : ∃ q, (vtrace P pr n ops ops.toList tmps σ)[i]? = some q := ⟨_, List.getElem?_eq_getElem (by omega)⟩
                  obtain ⟨q1, q2⟩ := q
                  simp only [hget hq] at hwt ⊢
                  obtain ⟨v, S', k1, k2⟩ := stable_spec hst i _ (watch_spec ho hl hw) q1 q2 o hq ho hwt
                  refine ⟨v, S', k1, fun j hj hjw => ?_⟩
                  obtain ⟨r, hr⟩ : ∃ r, (vtrace P pr n ops ops.toList tmps σ)[j]? = some r := ⟨_, List.getElem?_eq_getElem (by omega)⟩
                  obtain ⟨r1, r2⟩ := r
                  simp only [hget hr]
                  exact k2 j hjw r1 r2 hr
              have hT0 : ((vtrace P pr n ops ops.toList tmps σ)[0]?.getD ([], σ)) = (tmps, σ) := hget h3
              refine any_ok (g0 := g) (wa := w) (a0 := a) hp (fun m hm => ihc m (by omega)) hD hTr ?_ ?_ _ _ _ _ ?_ ?_
              · intro hx g1 a1 w1 hE hR1 hV1 hd1
                simp only [hT0] at hE
                subst hx
                exact ⟨g1, hE, hR1, rfl, .inr (by rw [htn rfl]; exact hV1), hd1⟩
              · intro v hx g1 a1 w1 u hE hR1 hV1 hd1
                simp only [hT0] at hE
                subst hx
                exact ⟨g1, hE, hR1, ⟨u, rfl, hV1⟩, .inl ⟨v, rfl, htp ⟨v, rfl⟩⟩, hd1⟩
              · refine Nat.le_trans List.countP_le_length ?_
                simp
              · have hno : ∀ i, ¬ isL (Array.replicate ops.size false) i := by
                  intro i
                  unfold isL
                  rw [Array.getD_eq_getD_getElem?, Array.getElem?_replicate]
                  split <;> simp
                refine ⟨by simp, fun i hi => absurd hi (hno i), fun i hi => absurd hi (hno i), rfl, .inl ⟨0, tmps, g, mem_starts.2 (.inl rfl), Nat.zero_le _, fun k o _ _ => ⟨fun h => absurd h (hno k), fun h => by omega⟩, ?_, ?_, ?_, ?_, ?_⟩⟩
                · simp only [hT0]; exact Ext.drew g σ.toks w
                · simp only [hT0]; exact hR.drew
                · simp only [hT0]; exact VRs.ext (Ext.drew g σ.toks w) _ hT
                · simp only [hT0]
                · intro t i hi hw
                  have : ∀ k o, 0 ≤ k → k < i → ops[k]? = some o → o.dst ≠ some t := fun k o _ hk ho hd => hno k ((hw k o ho hd).2 hk)
                  rw [hTr.slot (Nat.zero_le i) hi this]
                  simp only [hT0]
            split at h
            · rename_i ts S1 hv
              injection h with h
              injection h with h1 h2
              injection h2 with h2 h3
              exact main hv (fun v e => by cases e) (.inl rfl) h1.symm h3.symm (fun _ => h2.symm) (fun ⟨v, e⟩ => by cases e)
            · rename_i v ts S1 hv
              split at h
              · rename_i hl
                injection h with h
                injection h with h1 h2
                injection h2 with h2 h3
                exact main hv (fun _ _ => hl) (.inr ⟨v, rfl⟩) h1.symm h3.symm (fun e => by cases e) (fun _ => h2.symm)
              · cases h
            · cases h
          · cases h
      | seq c1 c2 =>
        simp only [vexec] at h
        refine triv (fun _ e => by cases e) (wpIn_seq ?_)
        split at h
        · rename_i tmps1 σ1 h1
          obtain ⟨hw1, _⟩ := ih2 c1 _ _ _ _ _ h1 g w a hR hT ro (hro.imp_right fun h => by simp only [hasRF, Bool.or_eq_false_iff] at h; exact h.1)
          refine wpIn_mono hw1 fun e a1 w1 hpost => ?_
          obtain ⟨g1, hE, hR1, hx, hT1, hd⟩ := hpost.up (b' := hasRF (.seq c1 c2)) (fun h => by simp [hasRF, h])
          replace hT1 := hT1.resolve_left (fun ⟨_, h9, _⟩ => by cases h9)
          simp only [XOk] at hx
          subst hx
          obtain ⟨hw2, _⟩ := ih2 c2 _ _ _ _ _ h g1 w1 a1 hR1 hT1 ro (hro.imp_right fun h => by simp only [hasRF, Bool.or_eq_false_iff] at h; exact h.2)
          exact wpIn_mono hw2 fun e a2 w2 hpost => (hpost.up (b' := hasRF (.seq c1 c2)) (fun h => by simp [hasRF, h])).trans hE hd
        · rename_i hne
          obtain ⟨hw1, _⟩ := ih2 c1 _ _ _ _ _ h g w a hR hT ro (hro.imp_right fun h => by simp only [hasRF, Bool.or_eq_false_iff] at h; exact h.1)
          refine wpIn_mono hw1 fun e a1 w1 hpost => ?_
          have hx : x ≠ .normal := fun ex => by subst ex; exact hne _ _ h
          obtain ⟨g1, hE, hR1, hxo, hT1, hd⟩ := hpost.up (b' := hasRF (.seq c1 c2)) (fun h => by simp [hasRF, h])
          cases x with
          | normal => exact absurd rfl hx
          | exit id => simp only [XOk] at hxo; subst hxo; exact ⟨g1, hE, hR1, rfl, hT1, hd⟩
          | ret => simp only [XOk] at hxo; subst hxo; exact ⟨g1, hE, hR1, rfl, hT1, hd⟩
          | pan v => obtain ⟨u, rfl, hV⟩ := hxo; exact ⟨g1, hE, hR1, ⟨u, rfl, hV⟩, hT1, hd⟩
      | cond c t e =>
        simp only [vexec] at h
        split at h
        · rename_i b hc
          have hV := evs_ok hT hc
          simp only [VR] at hV
          obtain ⟨hw1, _⟩ := ih2 _ _ _ _ _ _ h g w a hR hT ro (hro.imp_right fun hh => by simp only [hasRF, Bool.or_eq_false_iff] at hh; cases b; exact hh.2; exact hh.1)
          exact triv (fun _ e => by cases e) (wpIn_cond hV (wpIn_mono hw1 fun e' a' w' hp => hp.up fun h => by cases b <;> simp_all [hasRF]))
        · cases h
      | block id c =>
        simp only [vexec] at h
        refine triv (fun _ e => by cases e) (wpIn_block ?_)
        split at h
        · rename_i id' tmps1 σ1 h1
          injection h with h
          injection h with h2 h3
          injection h3 with h3 h4
          subst h2 h3 h4
          obtain ⟨hw1, _⟩ := ih2 c _ _ _ _ _ h1 g w a hR hT ro (hro.imp_right fun h => by simpa [hasRF] using h)
          refine wpIn_mono hw1 fun e a1 w1 hpost => ?_
          obtain ⟨g1, hE, hR1, hxo, hT1, hd⟩ := hpost.up (b' := hasRF (.block id c)) (fun h => by simp [hasRF, h])
          replace hT1 := hT1.resolve_left (fun ⟨_, h9, _⟩ => by cases h9)
          simp only [XOk] at hxo
          subst hxo
          simp only [Exit.inBlock]
          by_cases hid : id' = id
          · rw [if_pos hid, if_pos hid]; exact ⟨g1, hE, hR1, rfl, .inr hT1, hd⟩
          · rw [if_neg hid, if_neg hid]; exact ⟨g1, hE, hR1, rfl, .inr hT1, hd⟩
        · rename_i hne
          obtain ⟨hw1, _⟩ := ih2 c _ _ _ _ _ h g w a hR hT ro (hro.imp_right fun h => by simpa [hasRF] using h)
          refine wpIn_mono hw1 fun e a1 w1 hpost => ?_
          obtain ⟨g1, hE, hR1, hxo, hT1, hd⟩ := hpost.up (b' := hasRF (.block id c)) (fun h => by simp [hasRF, h])
          cases x with
          | normal => simp only [XOk] at hxo; subst hxo; exact ⟨g1, hE, hR1, rfl, hT1, hd⟩
          | exit id' => exact absurd h (hne _ _ _)
          | ret => simp only [XOk] at hxo; subst hxo; exact ⟨g1, hE, hR1, rfl, hT1, hd⟩
          | pan v => obtain ⟨u, rfl, hV⟩ := hxo; exact ⟨g1, hE, hR1, ⟨u, rfl, hV⟩, hT1, hd⟩
      | loop c =>
        have key : LoopWp ro P c (PostR (hasRF (.loop c)) base w0 g σ w a x tmps' σ') a w := by
          simp only [vexec] at h
          refine LoopWp.round ?_
          split at h
          · rename_i tmps1 σ1 h1
            obtain ⟨hw1, _⟩ := ih2 c _ _ _ _ _ h1 g w a hR hT ro (hro.imp_right fun h => by simpa [hasRF] using h)
            refine wpIn_mono hw1 fun e a1 w1 hpost => ?_
            obtain ⟨g1, hE, hR1, hx, hT1, hd⟩ := hpost.up (b' := hasRF (.loop c)) (fun h => by simp [hasRF, h])
            replace hT1 := hT1.resolve_left (fun ⟨_, h9, _⟩ => by cases h9)
            simp only [XOk] at hx
            subst hx
            obtain ⟨_, hl⟩ := ih2 (.loop c) _ _ _ _ _ h g1 w1 a1 hR1 hT1 ro hro
            intro b k cs hro
            obtain ⟨e, a2, w2, hq, harr⟩ := hl c rfl b k cs hro
            exact ⟨e, a2, w2, hq.trans hE hd, harr⟩
          · rename_i hne
            obtain ⟨hw1, _⟩ := ih2 c _ _ _ _ _ h g w a hR hT ro (hro.imp_right fun h => by simpa [hasRF] using h)
            refine wpIn_mono hw1 fun e a1 w1 hpost => ?_
            have hx : x ≠ .normal := fun ex => by subst ex; exact hne _ _ h
            obtain ⟨g1, hE, hR1, hxo, hT1, hd⟩ := hpost.up (b' := hasRF (.loop c)) (fun h => by simp [hasRF, h])
            cases x with
            | normal => exact absurd rfl hx
            | exit id => simp only [XOk] at hxo; subst hxo; exact ⟨g1, hE, hR1, rfl, hT1, hd⟩
            | ret => simp only [XOk] at hxo; subst hxo; exact ⟨g1, hE, hR1, rfl, hT1, hd⟩
            | pan v => obtain ⟨u, rfl, hV⟩ := hxo; exact ⟨g1, hE, hR1, ⟨u, rfl, hV⟩, hT1, hd⟩
        exact ⟨key.wp, fun c' e => by cases e; exact key⟩
      | rangeFunc f ps asg body =>
        have hro' : ro = none := hro.resolve_right (by simp [hasRF])
        subst hro'
        simp only [vexec] at h
        split at h
        · rename_i fid caps hf
          split at h
          · rename_i rv σ2 hc
            have hC := ih3.call _ _ _ _ _ hc
            have hF := evs_ok hT hf
            simp only [VR] at hF
            obtain ⟨cus, hF, hcaps⟩ := hF
            obtain ⟨fn1, hfn1, hnn1, hbb1⟩ := CallOk.fn hp hc
            obtain ⟨c1, hc1⟩ := Option.isSome_iff_exists.1 hbb1
            refine triv (fun _ e => by cases e) (wpIn_rangeFunc fun fn _ => ?_)
            obtain ⟨g1, hE1, hR1, hh1, hρ1⟩ := hR.loopNew hT fn ps asg body
            refine ⟨w.heap.size + 1, [mark w.heap.size], ((w.alloc (.deferred (some []))).alloc (.loop { state := .ready, pending := none, fn := fn, tmps := a.tmps, params := ps, assign := asg, body := body, defers := w.heap.size })), { target := .fn (.func fid) cus.toArray, args := #[.func (.yield (w.heap.size + 1)) #[] #[]] }, ((w.alloc (.deferred (some []))).alloc (.loop { state := .ready, pending := none, fn := fn, tmps := a.tmps, params := ps, assign := asg, body := body, defers := w.heap.size })), fid, #[.func (.yield (w.heap.size + 1)) #[] #[]] ++ cus.toArray, ((w.alloc (.deferred (some []))).alloc (.loop { state := .ready, pending := none, fn := fn, tmps := a.tmps, params := ps, assign := asg, body := body, defers := w.heap.size })), run_enterLoop_outer _ _ _ _ _, ?_, fun _ _ => trivial, ?_, fun h9 => by simp [Fr, Fence.wide] at h9, ?_⟩
            · simp only [resolve, hF]
              simp [go_sem]
            · have hn' : ¬ (fn1.name = "runtime.NumGoroutine") := by simpa [fnOk] using hnn1
              simp [invoke, callFunc, hfn1, hn', hc1]
            · have hd0 : ((w.alloc (.deferred (some []))).alloc (.loop { state := .ready, pending := none, fn := fn, tmps := a.tmps, params := ps, assign := asg, body := body, defers := w.heap.size })).heap[w.heap.size]? = some (.deferred (some [])) := by
                rw [heap_alloc_lt _ _ _ (by rw [World.size_alloc]; omega), heap_alloc_eq]
              have hy : VR g1 σ.toks ((w.alloc (.deferred (some []))).alloc (.loop { state := .ready, pending := none, fn := fn, tmps := a.tmps, params := ps, assign := asg, body := body, defers := w.heap.size })) (.yld σ.objs.length) (.func (.yield (w.heap.size + 1)) #[] #[]) := by
                simp only [VR]; exact ⟨hh1, by rw [hρ1]⟩
              have hargs : VRs g1 σ.toks ((w.alloc (.deferred (some []))).alloc (.loop { state := .ready, pending := none, fn := fn, tmps := a.tmps, params := ps, assign := asg, body := body, defers := w.heap.size })) (.yld σ.objs.length :: caps) (.func (.yield (w.heap.size + 1)) #[] #[] :: cus) := by
                simp only [VRs]; exact ⟨_, _, rfl, hy, VRs.ext hE1 _ hcaps⟩
              refine callsIn_fr.2 (Calls.mono (by have := hC g1 _ _ hR1 hargs; simpa using this) fun e w2 hpost => ?_)
              obtain ⟨g2, hE2, hR2, u, rfl, hV⟩ := hpost
              have hρ2 : g2.ρ σ.objs.length = w.heap.size + 1 := (hE2.ρ _ hh1).trans hρ1
              have hE := hE1.trans hE2
              have hd2 := hE2.dfr _ _ hd0
              rw [← hρ2]
              refine lpOut_ok h hR2 fun e w3 hE3 hR3 ht hx => ?_
              subst ht
              exact ⟨g2, hE.trans hE3, hR3, hx _ _ _, .inr (VRs.ext (hE.trans hE3) _ hT), [w.heap.size], rfl, by simp, fun D hD => by
                rw [List.mem_singleton.1 hD]
                refine ⟨⟨fun x hx => ?_, hR.bs⟩, hE3.dfr _ _ hd2⟩
                have := (Array.getElem?_eq_some_iff.1 hx).1
                omega⟩
          · cases h
        · cases h
      | scope b => simp [vexec] at h
      | goto l => simp [vexec] at h
      | refuse y => simp [vexec] at h
    · simp only [vcall] at h
      split at h
      · rename_i hi
        rw [gA1] at h
        obtain ⟨q, hq, e⟩ := h
        injection e with e1 e2
        subst e1 e2
        exact (hp f vs σ q.1 q.2 hi hq).1
      · split at h
        · rename_i fn hfn
          split at h
          · rename_i c hc
            split at h
            · split at h
              · exact callD_ok (E := fun c t s => if hasRF c then none else vexec P pr n c t s) (fun c tmps σ x tmps' σ' h g w a hR hT => by
                  dsimp only at h
                  split at h
                  · cases h
                  · rename_i hrf
                    have hrf : hasRF c = false := by simpa using hrf
                    have := (ih2 c tmps σ x tmps' σ' h g w a hR hT none (.inl rfl)).1
                    rw [hrf] at this
                    exact wpIn_fr.1 this) (fun ops l tmps σ x tmps' σ' h g w a hR hT Q hQ => ih1 ops l tmps σ x tmps' σ' h g w a hR hT Q hQ none) hfn hc h
              intro g w us hR hV
              have hT : VRs g σ.toks w (vs ++ List.replicate (fn.ntmps - vs.length) (.tuple [])) (us.toArray ++ Array.replicate (fn.ntmps - us.toArray.size) undef).toList := by
                have hl := hV.length
                simp only [Array.toList_append, Array.toList_replicate, List.size_toArray, ← hl]
                exact hV.append (VRs.replicate undef_ok _)
              have retCase : ∀ {tmps1 : List V} {σ1 : St} {r : VRes} {σ' : St}, (vresults P σ1 tmps1 fn.results.toList).map (fun rs => (VRes.ret (vtuple rs), σ1)) = some (r, σ') → ∀ {g1 : Gh} {ts : Array Value} {w1 : World}, Ext g σ.toks w g1 σ1.toks w1 → Rel base w0 g1 σ1 w1 → VRs g1 σ1.toks w1 tmps1 ts.toList →
                  ∃ v, (results fn ts).run P w1 = .ok v w1 ∧ ∃ g', Ext g σ.toks w g' σ'.toks w1 ∧ Rel base w0 g' σ' w1 ∧ EOk g' σ'.toks w1 r (.returned v) := by
                intro tmps1 σ1 r σ' hr g1 ts w1 hE hR1 hT1
                rw [gA1] at hr
                obtain ⟨rs, hrs, e⟩ := hr
                injection e with e1 e2
                subst e1 e2
                obtain ⟨v, hv, hV⟩ := results_ok hR1 hT1 hrs
                exact ⟨v, hv, g1, hE, hR1, v, rfl, hV⟩
              have ends : ∀ {x : VX} {tmps1 : List V} {σ1 : St}, vexec P pr n c (vs ++ List.replicate (fn.ntmps - vs.length) (.tuple [])) σ = some (x, tmps1, σ1) → (∀ id, x ≠ .exit id) →
                  (∀ {g1 : Gh} {ts : Array Value} {w2 : World} {e : Exit}, XOk g1 σ1.toks w2 x e → Ext g σ.toks w g1 σ1.toks w2 → Rel base w0 g1 σ1 w2 → ((∃ v, x = .pan v ∧ tmps1 = []) ∨ VRs g1 σ1.toks w2 tmps1 ts.toList) → ∀ u, (match e with | .panic ch => u = .panicking ch | _ => u = .returning) →
                    LeavesIn (Fr none) 0 P fn ts (fun e w' => ∃ g', Ext g σ.toks w g' σ'.toks w' ∧ Rel base w0 g' σ' w' ∧ EOk g' σ'.toks w' r e) [] u w2) →
                  Calls P f us.toArray w fun e w' => ∃ g', Ext g σ.toks w g' σ'.toks w' ∧ Rel base w0 g' σ' w' ∧ EOk g' σ'.toks w' r e := by
                intro x tmps1 σ1 hx hne hL
                obtain ⟨hw, _⟩ := ih2 c _ _ _ _ _ hx g w { tmps := us.toArray ++ Array.replicate (fn.ntmps - us.toArray.size) undef, defers := [] } hR hT none (.inl rfl)
                refine callsIn_fr.1 (callsIn_of_wp_marks (F := Fr none) (n := 0) hfn hc trivial (wpIn_mono hw fun e a1 w1 hpost => ?_))
                replace hpost := hpost.up (b' := true) (fun _ => rfl)
                obtain ⟨g1, hE, hR1, hxo, hT1, Ds, hds, hnd, hDs⟩ := hpost
                rw [List.append_nil] at hds
                have fin : ∀ u, u ≠ .run → (match e with | .panic ch => u = .panicking ch | _ => u = .returning) → LeavesInM (Fr none) 0 P fn a1.tmps (fun e w' => ∃ g', Ext g σ.toks w g' σ'.toks w' ∧ Rel base w0 g' σ' w' ∧ EOk g' σ'.toks w' r e) a1.defers u w1 := by
                  intro u hu hm
                  rw [hds]
                  refine leaves_marks hu Ds w1 hR1 hnd (fun D hD => ⟨(hDs D hD).1.2, (hDs D hD).2⟩) fun w2 E2 hk R2 => ?_
                  refine hL (e := e) ?_ ⟨hE.toExt0.trans0 E2, fun b y hb => hk b y (fun hmem => (hDs b hmem).1.1 y hb) (hE.dfr b y hb)⟩ R2 (hT1.imp_right fun h => VRs.ext0 E2 _ h) u hm
                  cases x with
                  | pan v => obtain ⟨z, hz, hv⟩ := hxo; exact ⟨z, hz, VR.ext0 E2 _ hv⟩
                  | _ => exact hxo
                cases x with
                | normal => simp only [XOk] at hxo; subst hxo; exact fin .returning (by simp) rfl
                | ret => simp only [XOk] at hxo; subst hxo; exact fin .returning (by simp) rfl
                | exit id => exact (hne id rfl).elim
                | pan v => obtain ⟨z, rfl, _⟩ := hxo; exact fin _ (by simp) rfl
              split at h
              · rename_i tmps1 σ1 hx
                refine ends hx (fun id e => by cases e) fun hxo hE hR1 hT1 u hm => ?_
                simp only [XOk] at hxo
                subst hxo
                simp only at hm
                subst hm
                exact retCase h hE hR1 (hT1.resolve_left (fun ⟨_, h9, _⟩ => by cases h9))
              · rename_i tmps1 σ1 hx
                refine ends hx (fun id e => by cases e) fun hxo hE hR1 hT1 u hm => ?_
                simp only [XOk] at hxo
                subst hxo
                simp only at hm
                subst hm
                exact retCase h hE hR1 (hT1.resolve_left (fun ⟨_, h9, _⟩ => by cases h9))
              · rename_i v tmps1 σ1 hx
                injection h with h
                injection h with h1 h2
                subst h1 h2
                refine ends hx (fun id e => by cases e) fun hxo hE hR1 hT1 u hm => ?_
                obtain ⟨z, rfl, hV1⟩ := hxo
                simp only at hm
                subst hm
                exact ⟨_, hE, hR1, z, rfl, hV1⟩
              · cases h
            · cases h
          · cases h
        · cases h
    · intro g w us hR hV
      simp only [vround] at h
      split at h
      · rename_i tm ps asg body hob
        split at h
        · rename_i hcnd
          obtain ⟨hlen, hra, hrb⟩ := hcnd
          split at h
          · rename_i t1 σ1 ha
            split at h
            · rename_i tm2 ps2 asg2 body2 hob1
              split at h
              · rename_i x t2 σ2 hbx
                obtain ⟨hb0, hL0, fn, df, us0, hh, hvs0⟩ := hR.obj _ _ hob
                have hhas : g.has r := (hR.hasO hob).resolve_right (fun h => by cases h)
                refine ⟨fn, _, asg, body, run_yield hh (by simp only [List.size_toArray]; rw [← hV.length]; exact hlen), ?_⟩
                refine roundIn_of_wpIn (F := Fence.wide) trivial ?_
                have hT : VRs g σ.toks w (lpSet tm ps vs) ((ps.zip us.toArray).foldl (fun (t : Array Value) (p : Tmp × Value) => t.setIfInBounds p.1 p.2) us0.toArray).toList := by
                  rw [← Array.foldl_toList, Array.toList_zip]
                  exact lpSet_ok (by simpa using hvs0) hV
                refine wpIn_mono (ih2 asg _ _ _ _ _ ha g w { tmps := _, defers := [] } hR hT (some (g.ρ r)) (.inr hra)).1 fun e a1 w1 hp => ?_
                obtain ⟨g1, hE1, hR1, hx1, hT1, hd1⟩ := hp
                replace hT1 := hT1.resolve_left (fun ⟨_, h9, _⟩ => by cases h9)
                simp only [XOk] at hx1
                subst hx1
                obtain ⟨hb1, hL1, fn1, df1, us1, hh1, hvs1⟩ := hR1.obj _ _ hob1
                have hρ1 : g1.ρ r = g.ρ r := hE1.ρ r hhas
                obtain ⟨E2, R2⟩ := hR1.loopSet hob1 (fun h => by cases h) hb1 hL1 hh1 { state := .busy, pending := none, fn := fn1, tmps := us1.toArray, params := ps2, assign := asg2, body := body2, defers := df1 } (.lpB tm2 ps2 asg2 body2) (by intro h; cases h) (fun E hs => ⟨hb1, hL1, fn1, df1, us1, hs, VRs.ext E _ hvs1⟩)
                have hbr := run_beginRound (P := P) hh1 rfl
                rw [hρ1] at hbr E2 R2
                refine ⟨_, hbr, ?_⟩
                refine wpIn_mono (ih2 body _ _ _ _ _ hbx g1 _ a1 R2 (VRs.ext E2 _ hT1) (some (g.ρ r)) (.inr hrb)).1 fun e a2 w2 hp => ?_
                obtain ⟨g2, hE2, hR2, hx2, hT2, _⟩ := hp
                have hρ2 : g2.ρ r = g.ρ r := (hE2.ρ r (hE1.has r hhas)).trans hρ1
                rw [← hρ2]
                exact lpEnd_ok h hR2 ⟨_, _, _, hx2⟩ fun w3 u E3 R3 hv => ⟨g2, u, rfl, ((hE1.trans E2).trans hE2).trans E3, R3, hv⟩
              · cases h
            · cases h
          · cases h
        · cases h
      · cases h
theorem vcall_sound (hp : PrimOk P pr base w0) {n : Nat} {f : FuncId} {vs : List V} {σ : St} {r : VRes} {σ' : St} (h : vcall P pr n f vs σ = some (r, σ')) : CallOk P base w0 f vs σ r σ' := (sound hp n).2.2.call f vs σ r σ' h
end
end Go.Proofs.YtnegdinonfjdfaaDoor.Q
