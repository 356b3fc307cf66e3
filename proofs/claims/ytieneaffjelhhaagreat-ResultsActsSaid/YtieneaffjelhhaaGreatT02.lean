/- The table of sums, as the evaluator knows it. -/
import Derived.Test.YtieneaffjelhhaaGreatMG2
import Derived.Test.YtieneaffjelhhaaGreatEB
set_option linter.unusedVariables false
namespace Go.Proofs.YtieneaffjelhhaaGreat
open Go Go.Vc
attribute [local irreducible] Go.Vc.Nc Go.Vc.Ld Go.Vc.LdA Go.Vc.St Go.Vc.StA Go.Vc.Fo Go.Vc.Iaa Go.Vc.Ias Go.Vc.Ixs Go.Vc.Ixa Go.Vc.Fd Go.Vc.FdA Go.Vc.Bp Go.Vc.Bb Go.Vc.Bn Go.Vc.Up Go.Vc.Ci Go.Vc.Lns Go.Vc.Lnl Go.Vc.Ex Go.Vc.Sst Go.Vc.Ssl Go.Vc.New Go.Vc.Vif Go.Vc.VJoin Go.Vc.VLoop Go.Vc.KE Go.Vc.Dr Go.Vc.Rk Go.Vc.Cl Go.Vc.Cx Go.Vc.Inv Go.Vc.Be Go.Vc.Cv Go.Vc.Cw Go.Vc.Mf Go.Vc.Sl Go.Vc.Lk Go.Vc.Bd Go.Vc.Bs Go.Vc.Ms Go.Vc.Mm Go.Vc.Mu Go.Vc.Me Go.Vc.Es Go.Vc.Rg Go.Vc.Nx Go.Vc.Ta Go.Vc.Ap Go.Vc.Usd Go.Vc.Ust Go.Vc.Cp Go.Vc.Ln Go.Vc.Bc Go.Vc.Bmin Go.Vc.Bmax Go.Vc.Bdel Go.Vc.Bclr Go.Vc.Pk
namespace T02
open W02 Go.M02
def tabX:List Ev.X:=[.i .u32 (.ofNat 0),.i .u32 (.ofNat 79764919),.i .u32 (.ofNat 159529838),.i .u32 (.ofNat 222504665),.i .u32 (.ofNat 319059676),.i .u32 (.ofNat 398814059),.i .u32 (.ofNat 445009330),.i .u32 (.ofNat 507990021),
  .i .u32 (.ofNat 638119352),.i .u32 (.ofNat 583659535),.i .u32 (.ofNat 797628118),.i .u32 (.ofNat 726387553),.i .u32 (.ofNat 890018660),.i .u32 (.ofNat 835552979),.i .u32 (.ofNat 1015980042),.i .u32 (.ofNat 944750013),
  .i .u32 (.ofNat 1276238704),.i .u32 (.ofNat 1221641927),.i .u32 (.ofNat 1167319070),.i .u32 (.ofNat 1095957929),.i .u32 (.ofNat 1595256236),.i .u32 (.ofNat 1540665371),.i .u32 (.ofNat 1452775106),.i .u32 (.ofNat 1381403509),
  .i .u32 (.ofNat 1780037320),.i .u32 (.ofNat 1859660671),.i .u32 (.ofNat 1671105958),.i .u32 (.ofNat 1733955601),.i .u32 (.ofNat 2031960084),.i .u32 (.ofNat 2111593891),.i .u32 (.ofNat 1889500026),.i .u32 (.ofNat 1952343757),
  .i .u32 (.ofNat 2552477408),.i .u32 (.ofNat 2632100695),.i .u32 (.ofNat 2443283854),.i .u32 (.ofNat 2506133561),.i .u32 (.ofNat 2334638140),.i .u32 (.ofNat 2414271883),.i .u32 (.ofNat 2191915858),.i .u32 (.ofNat 2254759653),
  .i .u32 (.ofNat 3190512472),.i .u32 (.ofNat 3135915759),.i .u32 (.ofNat 3081330742),.i .u32 (.ofNat 3009969537),.i .u32 (.ofNat 2905550212),.i .u32 (.ofNat 2850959411),.i .u32 (.ofNat 2762807018),.i .u32 (.ofNat 2691435357),
  .i .u32 (.ofNat 3560074640),.i .u32 (.ofNat 3505614887),.i .u32 (.ofNat 3719321342),.i .u32 (.ofNat 3648080713),.i .u32 (.ofNat 3342211916),.i .u32 (.ofNat 3287746299),.i .u32 (.ofNat 3467911202),.i .u32 (.ofNat 3396681109),
  .i .u32 (.ofNat 4063920168),.i .u32 (.ofNat 4143685023),.i .u32 (.ofNat 4223187782),.i .u32 (.ofNat 4286162673),.i .u32 (.ofNat 3779000052),.i .u32 (.ofNat 3858754371),.i .u32 (.ofNat 3904687514),.i .u32 (.ofNat 3967668269),
  .i .u32 (.ofNat 881225847),.i .u32 (.ofNat 809987520),.i .u32 (.ofNat 1023691545),.i .u32 (.ofNat 969234094),.i .u32 (.ofNat 662832811),.i .u32 (.ofNat 591600412),.i .u32 (.ofNat 771767749),.i .u32 (.ofNat 717299826),
  .i .u32 (.ofNat 311336399),.i .u32 (.ofNat 374308984),.i .u32 (.ofNat 453813921),.i .u32 (.ofNat 533576470),.i .u32 (.ofNat 25881363),.i .u32 (.ofNat 88864420),.i .u32 (.ofNat 134795389),.i .u32 (.ofNat 214552010),
  .i .u32 (.ofNat 2023205639),.i .u32 (.ofNat 2086057648),.i .u32 (.ofNat 1897238633),.i .u32 (.ofNat 1976864222),.i .u32 (.ofNat 1804852699),.i .u32 (.ofNat 1867694188),.i .u32 (.ofNat 1645340341),.i .u32 (.ofNat 1724971778),
  .i .u32 (.ofNat 1587496639),.i .u32 (.ofNat 1516133128),.i .u32 (.ofNat 1461550545),.i .u32 (.ofNat 1406951526),.i .u32 (.ofNat 1302016099),.i .u32 (.ofNat 1230646740),.i .u32 (.ofNat 1142491917),.i .u32 (.ofNat 1087903418),
  .i .u32 (.ofNat 2896545431),.i .u32 (.ofNat 2825181984),.i .u32 (.ofNat 2770861561),.i .u32 (.ofNat 2716262478),.i .u32 (.ofNat 3215044683),.i .u32 (.ofNat 3143675388),.i .u32 (.ofNat 3055782693),.i .u32 (.ofNat 3001194130),
  .i .u32 (.ofNat 2326604591),.i .u32 (.ofNat 2389456536),.i .u32 (.ofNat 2200899649),.i .u32 (.ofNat 2280525302),.i .u32 (.ofNat 2578013683),.i .u32 (.ofNat 2640855108),.i .u32 (.ofNat 2418763421),.i .u32 (.ofNat 2498394922),
  .i .u32 (.ofNat 3769900519),.i .u32 (.ofNat 3832873040),.i .u32 (.ofNat 3912640137),.i .u32 (.ofNat 3992402750),.i .u32 (.ofNat 4088425275),.i .u32 (.ofNat 4151408268),.i .u32 (.ofNat 4197601365),.i .u32 (.ofNat 4277358050),
  .i .u32 (.ofNat 3334271071),.i .u32 (.ofNat 3263032808),.i .u32 (.ofNat 3476998961),.i .u32 (.ofNat 3422541446),.i .u32 (.ofNat 3585640067),.i .u32 (.ofNat 3514407732),.i .u32 (.ofNat 3694837229),.i .u32 (.ofNat 3640369242),
  .i .u32 (.ofNat 1762451694),.i .u32 (.ofNat 1842216281),.i .u32 (.ofNat 1619975040),.i .u32 (.ofNat 1682949687),.i .u32 (.ofNat 2047383090),.i .u32 (.ofNat 2127137669),.i .u32 (.ofNat 1938468188),.i .u32 (.ofNat 2001449195),
  .i .u32 (.ofNat 1325665622),.i .u32 (.ofNat 1271206113),.i .u32 (.ofNat 1183200824),.i .u32 (.ofNat 1111960463),.i .u32 (.ofNat 1543535498),.i .u32 (.ofNat 1489069629),.i .u32 (.ofNat 1434599652),.i .u32 (.ofNat 1363369299),
  .i .u32 (.ofNat 622672798),.i .u32 (.ofNat 568075817),.i .u32 (.ofNat 748617968),.i .u32 (.ofNat 677256519),.i .u32 (.ofNat 907627842),.i .u32 (.ofNat 853037301),.i .u32 (.ofNat 1067152940),.i .u32 (.ofNat 995781531),
  .i .u32 (.ofNat 51762726),.i .u32 (.ofNat 131386257),.i .u32 (.ofNat 177728840),.i .u32 (.ofNat 240578815),.i .u32 (.ofNat 269590778),.i .u32 (.ofNat 349224269),.i .u32 (.ofNat 429104020),.i .u32 (.ofNat 491947555),
  .i .u32 (.ofNat 4046411278),.i .u32 (.ofNat 4126034873),.i .u32 (.ofNat 4172115296),.i .u32 (.ofNat 4234965207),.i .u32 (.ofNat 3794477266),.i .u32 (.ofNat 3874110821),.i .u32 (.ofNat 3953728444),.i .u32 (.ofNat 4016571915),
  .i .u32 (.ofNat 3609705398),.i .u32 (.ofNat 3555108353),.i .u32 (.ofNat 3735388376),.i .u32 (.ofNat 3664026991),.i .u32 (.ofNat 3290680682),.i .u32 (.ofNat 3236090077),.i .u32 (.ofNat 3449943556),.i .u32 (.ofNat 3378572211),
  .i .u32 (.ofNat 3174993278),.i .u32 (.ofNat 3120533705),.i .u32 (.ofNat 3032266256),.i .u32 (.ofNat 2961025959),.i .u32 (.ofNat 2923101090),.i .u32 (.ofNat 2868635157),.i .u32 (.ofNat 2813903052),.i .u32 (.ofNat 2742672763),
  .i .u32 (.ofNat 2604032198),.i .u32 (.ofNat 2683796849),.i .u32 (.ofNat 2461293480),.i .u32 (.ofNat 2524268063),.i .u32 (.ofNat 2284983834),.i .u32 (.ofNat 2364738477),.i .u32 (.ofNat 2175806836),.i .u32 (.ofNat 2238787779),
  .i .u32 (.ofNat 1569362073),.i .u32 (.ofNat 1498123566),.i .u32 (.ofNat 1409854455),.i .u32 (.ofNat 1355396672),.i .u32 (.ofNat 1317987909),.i .u32 (.ofNat 1246755826),.i .u32 (.ofNat 1192025387),.i .u32 (.ofNat 1137557660),
  .i .u32 (.ofNat 2072149281),.i .u32 (.ofNat 2135122070),.i .u32 (.ofNat 1912620623),.i .u32 (.ofNat 1992383480),.i .u32 (.ofNat 1753615357),.i .u32 (.ofNat 1816598090),.i .u32 (.ofNat 1627664531),.i .u32 (.ofNat 1707420964),
  .i .u32 (.ofNat 295390185),.i .u32 (.ofNat 358241886),.i .u32 (.ofNat 404320391),.i .u32 (.ofNat 483945776),.i .u32 (.ofNat 43990325),.i .u32 (.ofNat 106832002),.i .u32 (.ofNat 186451547),.i .u32 (.ofNat 266083308),
  .i .u32 (.ofNat 932423249),.i .u32 (.ofNat 861060070),.i .u32 (.ofNat 1041341759),.i .u32 (.ofNat 986742920),.i .u32 (.ofNat 613929101),.i .u32 (.ofNat 542559546),.i .u32 (.ofNat 756411363),.i .u32 (.ofNat 701822548),
  .i .u32 (.ofNat 3316196985),.i .u32 (.ofNat 3244833742),.i .u32 (.ofNat 3425377559),.i .u32 (.ofNat 3370778784),.i .u32 (.ofNat 3601682597),.i .u32 (.ofNat 3530312978),.i .u32 (.ofNat 3744426955),.i .u32 (.ofNat 3689838204),
  .i .u32 (.ofNat 3819031489),.i .u32 (.ofNat 3881883254),.i .u32 (.ofNat 3928223919),.i .u32 (.ofNat 4007849240),.i .u32 (.ofNat 4037393693),.i .u32 (.ofNat 4100235434),.i .u32 (.ofNat 4180117107),.i .u32 (.ofNat 4259748804),
  .i .u32 (.ofNat 2310601993),.i .u32 (.ofNat 2373574846),.i .u32 (.ofNat 2151335527),.i .u32 (.ofNat 2231098320),.i .u32 (.ofNat 2596047829),.i .u32 (.ofNat 2659030626),.i .u32 (.ofNat 2470359227),.i .u32 (.ofNat 2550115596),
  .i .u32 (.ofNat 2947551409),.i .u32 (.ofNat 2876312838),.i .u32 (.ofNat 2788305887),.i .u32 (.ofNat 2733848168),.i .u32 (.ofNat 3165939309),.i .u32 (.ofNat 3094707162),.i .u32 (.ofNat 3040238851),.i .u32 (.ofNat 2985771188)]
theorem Ybx:Ev.vl Ev.nsg (.g tabX)=some (.agg (tabL.map uv).toArray):=by kernel_rfl
theorem ent:Ev.EntOk Tryz.prog (.c 86 [] (.g tabX)):=⟨by kernel_rfl,[],_,rfl,Ybx,λw L K H post=>Zf9 H post⟩
abbrev known:List Ev.Ent:=[(.c 86 [] (.g tabX))]
theorem known_ok:Ev.OraOk Tryz.prog known:=Ev.Za5 ent Ev.Za7
end T02
end Go.Proofs.YtieneaffjelhhaaGreat
