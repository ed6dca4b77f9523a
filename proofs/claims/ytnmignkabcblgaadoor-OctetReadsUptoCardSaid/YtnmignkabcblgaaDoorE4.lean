/- Part of a claim: the evaluator: regions, code, calls. Nothing of a program stands here. -/
import Derived.Test.YtnmignkabcblgaaDoorE3
set_option linter.unusedSimpArgs false
set_option linter.unusedVariables false
namespace Go.Proofs.YtnmignkabcblgaaDoor.E
open Go Go.RowKit

inductive Out where
  | normal
  | exit (id : Nat)
  | ret

def putA (env : List AV) (d : Option Tmp) (v : AV) : List AV :=
  match d with
  | some i => env.set i v
  | none => env

/-- Is an operation carried out? (none: it can't be told) -/
def wantedA (ops : Array Oper) (env : List AV) (o : Oper) : Option Bool :=
  match o.guard with
  | none => some true
  | some (j, want) =>
    match (ops[j]?).bind (·.dst) with
    | none => some false
    | some t =>
      match env[t]? with
      | none => some false
      | some (.bool b) => some (b == want)
      | some (.tup _) => some false
      | some _ => none

abbrev CallT := FuncId → List AV → Heap → Option (AV × Heap)

/-- One operation, calls too. -/
def evStep (T : Tab) (M : Addr → Option AV) (call : CallT) (o : Oper) (env : List AV) (H : Heap) : Option (AV × Heap) :=
  match o.op with
  | .call { callee := .value f, args, .. } =>
    match opv env f with
    | .func k => call k (args.toList.map (opv env)) H
    | _ => none
  | op => evOp T M op (opv env) H

def evOps (T : Tab) (M : Addr → Option AV) (call : CallT) (ops : Array Oper) : List Oper → List AV → Heap → Option (List AV × Heap)
  | [], env, H => some (env, H)
  | o :: os, env, H =>
    match wantedA ops env o with
    | some true =>
      match evStep T M call o env H with
      | some (v, H') => evOps T M call ops os (putA env o.dst v) H'
      | none => none
    | some false => evOps T M call ops os (putA env o.dst (.tup [])) H
    | none => none

mutual
/-- Does the value bear no place of the abstract heap? -/
def flat : AV → Bool
  | .ptr _ _ _ => false
  | .slice _ _ _ _ _ _ => false
  | .iface _ v => flat v
  | .agg l => flats l
  | .tup l => flats l
  | _ => true
def flats : List AV → Bool
  | [] => true
  | x :: xs => flat x && flats xs
end

def resA (T : Tab) (M : Addr → Option AV) (env : List AV) (H : Heap) : List ResultVar → Option (List AV)
  | [] => some []
  | .tmp t :: r => (resA T M env H r).map fun l => env.getD t (.tup []) :: l
  | .cell a t :: r =>
    match loadA T M H t (env.getD a (.tup [])) with
    | some v => (resA T M env H r).map fun l => v :: l
    | none => none

def resultA (l : List AV) : AV :=
  match l with
  | [v] => v
  | l => .tup l

/-- The program, as the evaluator takes it: its types, its functions, what stands for those without a body (or proved apart). -/
structure Prg where
  T : Tab
  F : FuncId → Option Func
  X : FuncId → Option (List AV → Heap → Option (AV × Heap))

mutual
def evC (G : Prg) (M : Addr → Option AV) : Nat → Code → List AV → Heap → Option (Out × List AV × Heap)
  | 0, _, _, _ => none
  | n + 1, c, env, H =>
    match c with
    | .skip => some (.normal, env, H)
    | .region _ ops _ =>
      match evOps G.T M (evF G M n) ops ops.toList env H with
      | some (env', H') => some (.normal, env', H')
      | none => none
    | .seq a b =>
      match evC G M n a env H with
      | some (.normal, env', H') => evC G M n b env' H'
      | r => r
    | .cond c a b =>
      match opv env c with
      | .bool true => evC G M n a env H
      | .bool false => evC G M n b env H
      | _ => none
    | .block id b =>
      match evC G M n b env H with
      | some (.exit i, env', H') => if i = id then some (.normal, env', H') else some (.exit i, env', H')
      | r => r
    | .loop b =>
      match evC G M n b env H with
      | some (.normal, env', H') => evC G M n (.loop b) env' H'
      | r => r
    | .exit id => some (.exit id, env, H)
    | .ret => some (.ret, env, H)
    | _ => none
def evF (G : Prg) (M : Addr → Option AV) : Nat → FuncId → List AV → Heap → Option (AV × Heap)
  | 0, _, _, _ => none
  | n + 1, k, args, H =>
    match G.X k with
    | some f => f args H
    | none =>
      match G.F k with
      | none => none
      | some fn =>
        match fn.body with
        | none => none
        | some c =>
          if flats args then
            match evC G M n c (args ++ List.replicate (fn.ntmps - args.length) (.tup [])) [] with
            | some (.normal, env, H') | some (.ret, env, H') =>
              match resA G.T M env H' fn.results.toList with
              | some l => if flat (resultA l) then some (resultA l, H) else
                match evC G M n c (args ++ List.replicate (fn.ntmps - args.length) (.tup [])) H with
                | some (.normal, env, H') | some (.ret, env, H') => (resA G.T M env H' fn.results.toList).map fun l => (resultA l, H')
                | _ => none
              | none => none
            | _ => none
          else
            match evC G M n c (args ++ List.replicate (fn.ntmps - args.length) (.tup [])) H with
            | some (.normal, env, H') | some (.ret, env, H') => (resA G.T M env H' fn.results.toList).map fun l => (resultA l, H')
            | _ => none
end

end Go.Proofs.YtnmignkabcblgaaDoor.E
