/- The six primes are prime (Pocklington's criterion). Printed by primes.py. -/
import Derived.Test.YtincemkjdgbnnaaNT
namespace Go.Proofs.Ytincemkjdgbnnaa.NT

theorem p_1627 : Prime 1627 := prime_of_noDiv (k := 40) (by decide) (by decide +kernel) (by decide)

theorem p_2657 : Prime 2657 := prime_of_noDiv (k := 51) (by decide) (by decide +kernel) (by decide)

theorem p_4423 : Prime 4423 := prime_of_noDiv (k := 66) (by decide) (by decide +kernel) (by decide)

theorem p_41201 : Prime 41201 := prime_of_noDiv (k := 202) (by decide) (by decide +kernel) (by decide)

theorem p_96557 : Prime 96557 := prime_of_noDiv (k := 310) (by decide) (by decide +kernel) (by decide)

theorem p_255515944373312847190720520512484175977 : Prime 255515944373312847190720520512484175977 := by
  refine prime_of_all (F := 76065472551493819529) (by decide) (by decide +kernel) fun r hr hd => ?_
  have h1 : IsPow 2 (255515944373312847190720520512484175977 - 1) 255515944373312847190720520512484175977 1 := isPow_of_pm (k := 128) (by decide +kernel) (by decide +kernel)
  have g0 : IsPow 2 (1627 ^ 0 * 157047292177819820031174259688066488) 255515944373312847190720520512484175977 139347696063128176191966445215362426467 := isPow_of_pm (k := 128) (by decide +kernel) (by decide +kernel)
  have d0 : 1627 ^ (0 + 1) ∣ r - 1 := pock_one' (c := 157047292177819820031174259688066488) p_1627 hr hd (by decide +kernel) h1 g0 (by decide +kernel) (by decide)
  have g1 : IsPow 2 (2657 ^ 0 * 96167084822473785167753300907972968) 255515944373312847190720520512484175977 143956822027753060452052492058023902812 := isPow_of_pm (k := 128) (by decide +kernel) (by decide +kernel)
  have d1 : 2657 ^ (0 + 1) ∣ r - 1 := pock_one' (c := 96167084822473785167753300907972968) p_2657 hr hd (by decide +kernel) h1 g1 (by decide +kernel) (by decide)
  have g2 : IsPow 2 (4423 ^ 0 * 57769826898782013834664372713652312) 255515944373312847190720520512484175977 149333951050610460645192270230135358721 := isPow_of_pm (k := 128) (by decide +kernel) (by decide +kernel)
  have d2 : 4423 ^ (0 + 1) ∣ r - 1 := pock_one' (c := 57769826898782013834664372713652312) p_4423 hr hd (by decide +kernel) h1 g2 (by decide +kernel) (by decide)
  have g3 : IsPow 2 (41201 ^ 0 * 6201692783507993669831327407404776) 255515944373312847190720520512484175977 59616289389101383442534369920580220360 := isPow_of_pm (k := 128) (by decide +kernel) (by decide +kernel)
  have d3 : 41201 ^ (0 + 1) ∣ r - 1 := pock_one' (c := 6201692783507993669831327407404776) p_41201 hr hd (by decide +kernel) h1 g3 (by decide +kernel) (by decide)
  have g4 : IsPow 2 (96557 ^ 0 * 2646270538369179315748423423599368) 255515944373312847190720520512484175977 47418180093458530687350227428022525796 := isPow_of_pm (k := 128) (by decide +kernel) (by decide +kernel)
  have d4 : 96557 ^ (0 + 1) ∣ r - 1 := pock_one' (c := 2646270538369179315748423423599368) p_96557 hr hd (by decide +kernel) h1 g4 (by decide +kernel) (by decide)
  have c1 := dvd_of_coprime_dvd (by decide +kernel) d0 d1
  have c2 := dvd_of_coprime_dvd (by decide +kernel) c1 d2
  have c3 := dvd_of_coprime_dvd (by decide +kernel) c2 d3
  have c4 := dvd_of_coprime_dvd (by decide +kernel) c3 d4
  exact cast (congrArg (· ∣ r - 1) (by decide +kernel)) c4

theorem p_205115282021455665897114700593932402728804164701536103180137503955397371 : Prime 205115282021455665897114700593932402728804164701536103180137503955397371 := by
  refine prime_of_all (F := 255515944373312847190720520512484175977) (by decide) (by decide +kernel) fun r hr hd => ?_
  have h1 : IsPow 2 (205115282021455665897114700593932402728804164701536103180137503955397371 - 1) 205115282021455665897114700593932402728804164701536103180137503955397371 1 := isPow_of_pm (k := 237) (by decide +kernel) (by decide +kernel)
  have g0 : IsPow 2 (255515944373312847190720520512484175977 ^ 0 * 802749442992798076634733441528810) 205115282021455665897114700593932402728804164701536103180137503955397371 53072002638256206696760401718638995221936714922431175139555783581918754 := isPow_of_pm (k := 237) (by decide +kernel) (by decide +kernel)
  have d0 : 255515944373312847190720520512484175977 ^ (0 + 1) ∣ r - 1 := pock_one' (c := 802749442992798076634733441528810) p_255515944373312847190720520512484175977 hr hd (by decide +kernel) h1 g0 (by decide +kernel) (by decide)
  exact cast (congrArg (· ∣ r - 1) (by decide +kernel)) d0

theorem p_115792089237316195423570985008687907853269984665640564039457584007908834671663 : Prime 115792089237316195423570985008687907853269984665640564039457584007908834671663 := by
  refine prime_of_all (F := 205115282021455665897114700593932402728804164701536103180137503955397371) (by decide) (by decide +kernel) fun r hr hd => ?_
  have h1 : IsPow 2 (115792089237316195423570985008687907853269984665640564039457584007908834671663 - 1) 115792089237316195423570985008687907853269984665640564039457584007908834671663 1 := isPow_of_pm (k := 256) (by decide +kernel) (by decide +kernel)
  have g0 : IsPow 2 (205115282021455665897114700593932402728804164701536103180137503955397371 ^ 0 * 564522) 115792089237316195423570985008687907853269984665640564039457584007908834671663 30133174243114333125352536507925183895021889065932097717961225114769139489296 := isPow_of_pm (k := 256) (by decide +kernel) (by decide +kernel)
  have d0 : 205115282021455665897114700593932402728804164701536103180137503955397371 ^ (0 + 1) ∣ r - 1 := pock_one' (c := 564522) p_205115282021455665897114700593932402728804164701536103180137503955397371 hr hd (by decide +kernel) h1 g0 (by decide +kernel) (by decide)
  exact cast (congrArg (· ∣ r - 1) (by decide +kernel)) d0

theorem p_631 : Prime 631 := prime_of_noDiv (k := 25) (by decide) (by decide +kernel) (by decide)

theorem p_16699 : Prime 16699 := prime_of_noDiv (k := 129) (by decide) (by decide +kernel) (by decide)

theorem p_85831 : Prime 85831 := prime_of_noDiv (k := 292) (by decide) (by decide +kernel) (by decide)

theorem p_107361793816595537 : Prime 107361793816595537 := by
  refine prime_of_all (F := 1433291869) (by decide) (by decide +kernel) fun r hr hd => ?_
  have h1 : IsPow 2 (107361793816595537 - 1) 107361793816595537 1 := isPow_of_pm (k := 57) (by decide +kernel) (by decide +kernel)
  have g0 : IsPow 2 (16699 ^ 0 * 6429234913264) 107361793816595537 61702295818115 := isPow_of_pm (k := 57) (by decide +kernel) (by decide +kernel)
  have d0 : 16699 ^ (0 + 1) ∣ r - 1 := pock_one' (c := 6429234913264) p_16699 hr hd (by decide +kernel) h1 g0 (by decide +kernel) (by decide)
  have g1 : IsPow 2 (85831 ^ 0 * 1250851019056) 107361793816595537 101608383539442156 := isPow_of_pm (k := 57) (by decide +kernel) (by decide +kernel)
  have d1 : 85831 ^ (0 + 1) ∣ r - 1 := pock_one' (c := 1250851019056) p_85831 hr hd (by decide +kernel) h1 g1 (by decide +kernel) (by decide)
  have c1 := dvd_of_coprime_dvd (by decide +kernel) d0 d1
  exact cast (congrArg (· ∣ r - 1) (by decide +kernel)) c1

theorem p_59 : Prime 59 := prime_of_noDiv (k := 7) (by decide) (by decide +kernel) (by decide)

theorem p_4051 : Prime 4051 := prime_of_noDiv (k := 63) (by decide) (by decide +kernel) (by decide)

theorem p_120233 : Prime 120233 := prime_of_noDiv (k := 346) (by decide) (by decide +kernel) (by decide)

theorem p_174723607534414371449 : Prime 174723607534414371449 := by
  refine prime_of_all (F := 28736769097) (by decide) (by decide +kernel) fun r hr hd => ?_
  have h1 : IsPow 2 (174723607534414371449 - 1) 174723607534414371449 1 := isPow_of_pm (k := 68) (by decide +kernel) (by decide +kernel)
  have g0 : IsPow 2 (59 ^ 0 * 2961417076854480872) 174723607534414371449 78096181111209170161 := isPow_of_pm (k := 68) (by decide +kernel) (by decide +kernel)
  have d0 : 59 ^ (0 + 1) ∣ r - 1 := pock_one' (c := 2961417076854480872) p_59 hr hd (by decide +kernel) h1 g0 (by decide +kernel) (by decide)
  have g1 : IsPow 2 (4051 ^ 0 * 43130981864827048) 174723607534414371449 131341358850566312070 := isPow_of_pm (k := 68) (by decide +kernel) (by decide +kernel)
  have d1 : 4051 ^ (0 + 1) ∣ r - 1 := pock_one' (c := 43130981864827048) p_4051 hr hd (by decide +kernel) h1 g1 (by decide +kernel) (by decide)
  have g2 : IsPow 2 (120233 ^ 0 * 1453208416444856) 174723607534414371449 97784642313376440036 := isPow_of_pm (k := 68) (by decide +kernel) (by decide +kernel)
  have d2 : 120233 ^ (0 + 1) ∣ r - 1 := pock_one' (c := 1453208416444856) p_120233 hr hd (by decide +kernel) h1 g2 (by decide +kernel) (by decide)
  have c1 := dvd_of_coprime_dvd (by decide +kernel) d0 d1
  have c2 := dvd_of_coprime_dvd (by decide +kernel) c1 d2
  exact cast (congrArg (· ∣ r - 1) (by decide +kernel)) c2

theorem p_115792089237316195423570985008687907852837564279074904382605163141518161494337 : Prime 115792089237316195423570985008687907852837564279074904382605163141518161494337 := by
  refine prime_of_all (F := 11836701793937980728516123542966496184303) (by decide) (by decide +kernel) fun r hr hd => ?_
  have h1 : IsPow 2 (115792089237316195423570985008687907852837564279074904382605163141518161494337 - 1) 115792089237316195423570985008687907852837564279074904382605163141518161494337 1 := isPow_of_pm (k := 256) (by decide +kernel) (by decide +kernel)
  have g0 : IsPow 2 (631 ^ 0 * 183505688173242781970793954054972912603546060664144063997789481999236389056) 115792089237316195423570985008687907852837564279074904382605163141518161494337 2363123028391243961106781993652178889014093570236938838200425202178842413683 := isPow_of_pm (k := 256) (by decide +kernel) (by decide +kernel)
  have d0 : 631 ^ (0 + 1) ∣ r - 1 := pock_one' (c := 183505688173242781970793954054972912603546060664144063997789481999236389056) p_631 hr hd (by decide +kernel) h1 g0 (by decide +kernel) (by decide)
  have g1 : IsPow 2 (107361793816595537 ^ 0 * 1078522304080742162682399010554089082520748534743704783428928) 115792089237316195423570985008687907852837564279074904382605163141518161494337 63370834560308318187052870165424820484109585881155964085779689793840765846755 := isPow_of_pm (k := 256) (by decide +kernel) (by decide +kernel)
  have d1 : 107361793816595537 ^ (0 + 1) ∣ r - 1 := pock_one' (c := 1078522304080742162682399010554089082520748534743704783428928) p_107361793816595537 hr hd (by decide +kernel) h1 g1 (by decide +kernel) (by decide)
  have g2 : IsPow 2 (174723607534414371449 ^ 0 * 662715765037699607481235088557493206623080876315205958464) 115792089237316195423570985008687907852837564279074904382605163141518161494337 58138579787377535003503259606714116115479494849592057519620557805018937774448 := isPow_of_pm (k := 256) (by decide +kernel) (by decide +kernel)
  have d2 : 174723607534414371449 ^ (0 + 1) ∣ r - 1 := pock_one' (c := 662715765037699607481235088557493206623080876315205958464) p_174723607534414371449 hr hd (by decide +kernel) h1 g2 (by decide +kernel) (by decide)
  have c1 := dvd_of_coprime_dvd (by decide +kernel) d0 d1
  have c2 := dvd_of_coprime_dvd (by decide +kernel) c1 d2
  exact cast (congrArg (· ∣ r - 1) (by decide +kernel)) c2

theorem p_2 : Prime 2 := prime_of_noDiv (k := 1) (by decide) (by decide +kernel) (by decide)

theorem p_3 : Prime 3 := prime_of_noDiv (k := 1) (by decide) (by decide +kernel) (by decide)

theorem p_19 : Prime 19 := prime_of_noDiv (k := 4) (by decide) (by decide +kernel) (by decide)

theorem p_1853641 : Prime 1853641 := by
  refine prime_of_all (F := 1368) (by decide) (by decide +kernel) fun r hr hd => ?_
  have h1 : IsPow 17 (1853641 - 1) 1853641 1 := isPow_of_pm (k := 21) (by decide +kernel) (by decide +kernel)
  have g0 : IsPow 17 (2 ^ 2 * 231705) 1853641 1853640 := isPow_of_pm (k := 21) (by decide +kernel) (by decide +kernel)
  have d0 : 2 ^ (2 + 1) ∣ r - 1 := pock_one' (c := 231705) p_2 hr hd (by decide +kernel) h1 g0 (by decide +kernel) (by decide)
  have g1 : IsPow 17 (3 ^ 1 * 205960) 1853641 536485 := isPow_of_pm (k := 21) (by decide +kernel) (by decide +kernel)
  have d1 : 3 ^ (1 + 1) ∣ r - 1 := pock_one' (c := 205960) p_3 hr hd (by decide +kernel) h1 g1 (by decide +kernel) (by decide)
  have g2 : IsPow 17 (19 ^ 0 * 97560) 1853641 1800158 := isPow_of_pm (k := 21) (by decide +kernel) (by decide +kernel)
  have d2 : 19 ^ (0 + 1) ∣ r - 1 := pock_one' (c := 97560) p_19 hr hd (by decide +kernel) h1 g2 (by decide +kernel) (by decide)
  have c1 := dvd_of_coprime_dvd (by decide +kernel) d0 d1
  have c2 := dvd_of_coprime_dvd (by decide +kernel) c1 d2
  exact cast (congrArg (· ∣ r - 1) (by decide +kernel)) c2

theorem p_17 : Prime 17 := prime_of_noDiv (k := 4) (by decide) (by decide +kernel) (by decide)

theorem p_109 : Prime 109 := prime_of_noDiv (k := 10) (by decide) (by decide +kernel) (by decide)

theorem p_4562087 : Prime 4562087 := by
  refine prime_of_all (F := 3706) (by decide) (by decide +kernel) fun r hr hd => ?_
  have h1 : IsPow 5 (4562087 - 1) 4562087 1 := isPow_of_pm (k := 23) (by decide +kernel) (by decide +kernel)
  have g0 : IsPow 5 (2 ^ 0 * 2281043) 4562087 4562086 := isPow_of_pm (k := 23) (by decide +kernel) (by decide +kernel)
  have d0 : 2 ^ (0 + 1) ∣ r - 1 := pock_one' (c := 2281043) p_2 hr hd (by decide +kernel) h1 g0 (by decide +kernel) (by decide)
  have g1 : IsPow 5 (17 ^ 0 * 268358) 4562087 476158 := isPow_of_pm (k := 23) (by decide +kernel) (by decide +kernel)
  have d1 : 17 ^ (0 + 1) ∣ r - 1 := pock_one' (c := 268358) p_17 hr hd (by decide +kernel) h1 g1 (by decide +kernel) (by decide)
  have g2 : IsPow 5 (109 ^ 0 * 41854) 4562087 2845343 := isPow_of_pm (k := 23) (by decide +kernel) (by decide +kernel)
  have d2 : 109 ^ (0 + 1) ∣ r - 1 := pock_one' (c := 41854) p_109 hr hd (by decide +kernel) h1 g2 (by decide +kernel) (by decide)
  have c1 := dvd_of_coprime_dvd (by decide +kernel) d0 d1
  have c2 := dvd_of_coprime_dvd (by decide +kernel) c1 d2
  exact cast (congrArg (· ∣ r - 1) (by decide +kernel)) c2

theorem p_13327 : Prime 13327 := prime_of_noDiv (k := 115) (by decide) (by decide +kernel) (by decide)

theorem p_173171039 : Prime 173171039 := by
  refine prime_of_all (F := 13327) (by decide) (by decide +kernel) fun r hr hd => ?_
  have h1 : IsPow 2 (173171039 - 1) 173171039 1 := isPow_of_pm (k := 28) (by decide +kernel) (by decide +kernel)
  have g0 : IsPow 2 (13327 ^ 0 * 12994) 173171039 16359965 := isPow_of_pm (k := 28) (by decide +kernel) (by decide +kernel)
  have d0 : 13327 ^ (0 + 1) ∣ r - 1 := pock_one' (c := 12994) p_13327 hr hd (by decide +kernel) h1 g0 (by decide +kernel) (by decide)
  exact cast (congrArg (· ∣ r - 1) (by decide +kernel)) d0

theorem p_13427688667394608761327070753331941386769 : Prime 13427688667394608761327070753331941386769 := by
  refine prime_of_all (F := 1464415957447078998913) (by decide) (by decide +kernel) fun r hr hd => ?_
  have h1 : IsPow 2 (13427688667394608761327070753331941386769 - 1) 13427688667394608761327070753331941386769 1 := isPow_of_pm (k := 134) (by decide +kernel) (by decide +kernel)
  have g0 : IsPow 2 (1853641 ^ 0 * 7243953207441251440449941899932048) 13427688667394608761327070753331941386769 3788155103454844598479932214368604549290 := isPow_of_pm (k := 134) (by decide +kernel) (by decide +kernel)
  have d0 : 1853641 ^ (0 + 1) ∣ r - 1 := pock_one' (c := 7243953207441251440449941899932048) p_1853641 hr hd (by decide +kernel) h1 g0 (by decide +kernel) (by decide)
  have g1 : IsPow 2 (4562087 ^ 0 * 2943321481461140210900640595703664) 13427688667394608761327070753331941386769 5723642822648877229016982964188904353859 := isPow_of_pm (k := 134) (by decide +kernel) (by decide +kernel)
  have d1 : 4562087 ^ (0 + 1) ∣ r - 1 := pock_one' (c := 2943321481461140210900640595703664) p_4562087 hr hd (by decide +kernel) h1 g1 (by decide +kernel) (by decide)
  have g2 : IsPow 2 (173171039 ^ 0 * 77540036399473290457806115913712) 13427688667394608761327070753331941386769 9785822746442342713677375315050249518427 := isPow_of_pm (k := 134) (by decide +kernel) (by decide +kernel)
  have d2 : 173171039 ^ (0 + 1) ∣ r - 1 := pock_one' (c := 77540036399473290457806115913712) p_173171039 hr hd (by decide +kernel) h1 g2 (by decide +kernel) (by decide)
  have c1 := dvd_of_coprime_dvd (by decide +kernel) d0 d1
  have c2 := dvd_of_coprime_dvd (by decide +kernel) c1 d2
  exact cast (congrArg (· ∣ r - 1) (by decide +kernel)) c2

theorem p_21888242871839275222246405745257275088696311157297823662689037894645226208583 : Prime 21888242871839275222246405745257275088696311157297823662689037894645226208583 := by
  refine prime_of_all (F := 13427688667394608761327070753331941386769) (by decide) (by decide +kernel) fun r hr hd => ?_
  have h1 : IsPow 2 (21888242871839275222246405745257275088696311157297823662689037894645226208583 - 1) 21888242871839275222246405745257275088696311157297823662689037894645226208583 1 := isPow_of_pm (k := 254) (by decide +kernel) (by decide +kernel)
  have g0 : IsPow 2 (13427688667394608761327070753331941386769 ^ 0 * 1630082690626329392154177744477557478) 21888242871839275222246405745257275088696311157297823662689037894645226208583 20520420087326380218354900027015874311863624918437260220194913954166250002289 := isPow_of_pm (k := 254) (by decide +kernel) (by decide +kernel)
  have d0 : 13427688667394608761327070753331941386769 ^ (0 + 1) ∣ r - 1 := pock_one' (c := 1630082690626329392154177744477557478) p_13427688667394608761327070753331941386769 hr hd (by decide +kernel) h1 g0 (by decide +kernel) (by decide)
  exact cast (congrArg (· ∣ r - 1) (by decide +kernel)) d0

theorem p_13 : Prime 13 := prime_of_noDiv (k := 3) (by decide) (by decide +kernel) (by decide)

theorem p_29 : Prime 29 := prime_of_noDiv (k := 5) (by decide) (by decide +kernel) (by decide)

theorem p_983 : Prime 983 := prime_of_noDiv (k := 31) (by decide) (by decide +kernel) (by decide)

theorem p_11003 : Prime 11003 := prime_of_noDiv (k := 104) (by decide) (by decide +kernel) (by decide)

theorem p_237073 : Prime 237073 := prime_of_noDiv (k := 486) (by decide) (by decide +kernel) (by decide)

theorem p_11 : Prime 11 := prime_of_noDiv (k := 3) (by decide) (by decide +kernel) (by decide)

theorem p_3691 : Prime 3691 := prime_of_noDiv (k := 60) (by decide) (by decide +kernel) (by decide)

theorem p_405928799 : Prime 405928799 := by
  refine prime_of_all (F := 40601) (by decide) (by decide +kernel) fun r hr hd => ?_
  have h1 : IsPow 2 (405928799 - 1) 405928799 1 := isPow_of_pm (k := 29) (by decide +kernel) (by decide +kernel)
  have g0 : IsPow 2 (11 ^ 0 * 36902618) 405928799 215859951 := isPow_of_pm (k := 29) (by decide +kernel) (by decide +kernel)
  have d0 : 11 ^ (0 + 1) ∣ r - 1 := pock_one' (c := 36902618) p_11 hr hd (by decide +kernel) h1 g0 (by decide +kernel) (by decide)
  have g1 : IsPow 2 (3691 ^ 0 * 109978) 405928799 122990330 := isPow_of_pm (k := 29) (by decide +kernel) (by decide +kernel)
  have d1 : 3691 ^ (0 + 1) ∣ r - 1 := pock_one' (c := 109978) p_3691 hr hd (by decide +kernel) h1 g1 (by decide +kernel) (by decide)
  have c1 := dvd_of_coprime_dvd (by decide +kernel) d0 d1
  exact cast (congrArg (· ∣ r - 1) (by decide +kernel)) c1

theorem p_7 : Prime 7 := prime_of_noDiv (k := 2) (by decide) (by decide +kernel) (by decide)

theorem p_661 : Prime 661 := prime_of_noDiv (k := 25) (by decide) (by decide +kernel) (by decide)

theorem p_12048837557 : Prime 12048837557 := by
  refine prime_of_all (F := 129556) (by decide) (by decide +kernel) fun r hr hd => ?_
  have h1 : IsPow 2 (12048837557 - 1) 12048837557 1 := isPow_of_pm (k := 34) (by decide +kernel) (by decide +kernel)
  have g0 : IsPow 2 (2 ^ 1 * 3012209389) 12048837557 12048837556 := isPow_of_pm (k := 34) (by decide +kernel) (by decide +kernel)
  have d0 : 2 ^ (1 + 1) ∣ r - 1 := pock_one' (c := 3012209389) p_2 hr hd (by decide +kernel) h1 g0 (by decide +kernel) (by decide)
  have g1 : IsPow 2 (7 ^ 1 * 245894644) 12048837557 41029474 := isPow_of_pm (k := 34) (by decide +kernel) (by decide +kernel)
  have d1 : 7 ^ (1 + 1) ∣ r - 1 := pock_one' (c := 245894644) p_7 hr hd (by decide +kernel) h1 g1 (by decide +kernel) (by decide)
  have g2 : IsPow 2 (661 ^ 0 * 18228196) 12048837557 8877273464 := isPow_of_pm (k := 34) (by decide +kernel) (by decide +kernel)
  have d2 : 661 ^ (0 + 1) ∣ r - 1 := pock_one' (c := 18228196) p_661 hr hd (by decide +kernel) h1 g2 (by decide +kernel) (by decide)
  have c1 := dvd_of_coprime_dvd (by decide +kernel) d0 d1
  have c2 := dvd_of_coprime_dvd (by decide +kernel) c1 d2
  exact cast (congrArg (· ∣ r - 1) (by decide +kernel)) c2

theorem p_5156902474397 : Prime 5156902474397 := by
  refine prime_of_all (F := 12048837557) (by decide) (by decide +kernel) fun r hr hd => ?_
  have h1 : IsPow 2 (5156902474397 - 1) 5156902474397 1 := isPow_of_pm (k := 43) (by decide +kernel) (by decide +kernel)
  have g0 : IsPow 2 (12048837557 ^ 0 * 428) 5156902474397 4746712836098 := isPow_of_pm (k := 43) (by decide +kernel) (by decide +kernel)
  have d0 : 12048837557 ^ (0 + 1) ∣ r - 1 := pock_one' (c := 428) p_12048837557 hr hd (by decide +kernel) h1 g0 (by decide +kernel) (by decide)
  exact cast (congrArg (· ∣ r - 1) (by decide +kernel)) d0

theorem p_1670836401704629 : Prime 1670836401704629 := by
  refine prime_of_all (F := 5156902474397) (by decide) (by decide +kernel) fun r hr hd => ?_
  have h1 : IsPow 2 (1670836401704629 - 1) 1670836401704629 1 := isPow_of_pm (k := 51) (by decide +kernel) (by decide +kernel)
  have g0 : IsPow 2 (5156902474397 ^ 0 * 324) 1670836401704629 11046204280772 := isPow_of_pm (k := 51) (by decide +kernel) (by decide +kernel)
  have d0 : 5156902474397 ^ (0 + 1) ∣ r - 1 := pock_one' (c := 324) p_5156902474397 hr hd (by decide +kernel) h1 g0 (by decide +kernel) (by decide)
  exact cast (congrArg (· ∣ r - 1) (by decide +kernel)) d0

theorem p_21888242871839275222246405745257275088548364400416034343698204186575808495617 : Prime 21888242871839275222246405745257275088548364400416034343698204186575808495617 := by
  refine prime_of_all (F := 655649702885781401871333214166857577959) (by decide) (by decide +kernel) fun r hr hd => ?_
  have h1 : IsPow 5 (21888242871839275222246405745257275088548364400416034343698204186575808495617 - 1) 21888242871839275222246405745257275088548364400416034343698204186575808495617 1 := isPow_of_pm (k := 254) (by decide +kernel) (by decide +kernel)
  have g0 : IsPow 5 (13 ^ 0 * 1683710990141482709403569672712098083734489569262771872592169552813523730432) 21888242871839275222246405745257275088548364400416034343698204186575808495617 20846111736645777009767703653665533493788639406277865704073555848150445038125 := isPow_of_pm (k := 254) (by decide +kernel) (by decide +kernel)
  have d0 : 13 ^ (0 + 1) ∣ r - 1 := pock_one' (c := 1683710990141482709403569672712098083734489569262771872592169552813523730432) p_13 hr hd (by decide +kernel) h1 g0 (by decide +kernel) (by decide)
  have g1 : IsPow 5 (29 ^ 0 * 754766995580664662836082956733009485812012565531587391162007040916407189504) 21888242871839275222246405745257275088548364400416034343698204186575808495617 18357710930920482893114740859477755941065533295300174657912055312005893977631 := isPow_of_pm (k := 254) (by decide +kernel) (by decide +kernel)
  have d1 : 29 ^ (0 + 1) ∣ r - 1 := pock_one' (c := 754766995580664662836082956733009485812012565531587391162007040916407189504) p_29 hr hd (by decide +kernel) h1 g1 (by decide +kernel) (by decide)
  have g2 : IsPow 5 (983 ^ 0 * 22266778099531307448877320188461114027007491760341845720954429487869591552) 21888242871839275222246405745257275088548364400416034343698204186575808495617 16151937248511612831218790030381502136078900305644383989873770910345603053439 := isPow_of_pm (k := 254) (by decide +kernel) (by decide +kernel)
  have d2 : 983 ^ (0 + 1) ∣ r - 1 := pock_one' (c := 22266778099531307448877320188461114027007491760341845720954429487869591552) p_983 hr hd (by decide +kernel) h1 g2 (by decide +kernel) (by decide)
  have g3 : IsPow 5 (11003 ^ 0 * 1989297725333025104266691424634851866631679033028813445760083994053967872) 21888242871839275222246405745257275088548364400416034343698204186575808495617 8299083658399422953216871473066571686783765754016288837524968026835148283600 := isPow_of_pm (k := 254) (by decide +kernel) (by decide +kernel)
  have d3 : 11003 ^ (0 + 1) ∣ r - 1 := pock_one' (c := 1989297725333025104266691424634851866631679033028813445760083994053967872) p_11003 hr hd (by decide +kernel) h1 g3 (by decide +kernel) (by decide)
  have g4 : IsPow 5 (237073 ^ 0 * 92327016875980289709272695521030547926370208334209439049146061283131392) 21888242871839275222246405745257275088548364400416034343698204186575808495617 1135558486015409621676726807058439328573409521523979529600469708688064761941 := isPow_of_pm (k := 254) (by decide +kernel) (by decide +kernel)
  have d4 : 237073 ^ (0 + 1) ∣ r - 1 := pock_one' (c := 92327016875980289709272695521030547926370208334209439049146061283131392) p_237073 hr hd (by decide +kernel) h1 g4 (by decide +kernel) (by decide)
  have g5 : IsPow 5 (405928799 ^ 0 * 53921384552563552462426805409431605981098090062873401459989056323584) 21888242871839275222246405745257275088548364400416034343698204186575808495617 19321818016159037061311250724021617607548090886696614157910334987366532500238 := isPow_of_pm (k := 254) (by decide +kernel) (by decide +kernel)
  have d5 : 405928799 ^ (0 + 1) ∣ r - 1 := pock_one' (c := 53921384552563552462426805409431605981098090062873401459989056323584) p_405928799 hr hd (by decide +kernel) h1 g5 (by decide +kernel) (by decide)
  have g6 : IsPow 5 (1670836401704629 ^ 0 * 13100171177446423556613374118717413492986637444144570673659904) 21888242871839275222246405745257275088548364400416034343698204186575808495617 19643034808648967981397807206080768497060516784825884862247505212574391305991 := isPow_of_pm (k := 254) (by decide +kernel) (by decide +kernel)
  have d6 : 1670836401704629 ^ (0 + 1) ∣ r - 1 := pock_one' (c := 13100171177446423556613374118717413492986637444144570673659904) p_1670836401704629 hr hd (by decide +kernel) h1 g6 (by decide +kernel) (by decide)
  have c1 := dvd_of_coprime_dvd (by decide +kernel) d0 d1
  have c2 := dvd_of_coprime_dvd (by decide +kernel) c1 d2
  have c3 := dvd_of_coprime_dvd (by decide +kernel) c2 d3
  have c4 := dvd_of_coprime_dvd (by decide +kernel) c3 d4
  have c5 := dvd_of_coprime_dvd (by decide +kernel) c4 d5
  have c6 := dvd_of_coprime_dvd (by decide +kernel) c5 d6
  exact cast (congrArg (· ∣ r - 1) (by decide +kernel)) c6

theorem p_5 : Prime 5 := prime_of_noDiv (k := 2) (by decide) (by decide +kernel) (by decide)

theorem p_113 : Prime 113 := prime_of_noDiv (k := 10) (by decide) (by decide +kernel) (by decide)

theorem p_1151 : Prime 1151 := prime_of_noDiv (k := 33) (by decide) (by decide +kernel) (by decide)

theorem p_755057 : Prime 755057 := by
  refine prime_of_all (F := 1151) (by decide) (by decide +kernel) fun r hr hd => ?_
  have h1 : IsPow 2 (755057 - 1) 755057 1 := isPow_of_pm (k := 20) (by decide +kernel) (by decide +kernel)
  have g0 : IsPow 2 (1151 ^ 0 * 656) 755057 37876 := isPow_of_pm (k := 20) (by decide +kernel) (by decide +kernel)
  have d0 : 1151 ^ (0 + 1) ∣ r - 1 := pock_one' (c := 656) p_1151 hr hd (by decide +kernel) h1 g0 (by decide +kernel) (by decide)
  exact cast (congrArg (· ∣ r - 1) (by decide +kernel)) d0

theorem p_3819663927398918131021 : Prime 3819663927398918131021 := by
  refine prime_of_all (F := 72949832055) (by decide) (by decide +kernel) fun r hr hd => ?_
  have h1 : IsPow 6 (3819663927398918131021 - 1) 3819663927398918131021 1 := isPow_of_pm (k := 72) (by decide +kernel) (by decide +kernel)
  have g0 : IsPow 6 (3 ^ 1 * 424407103044324236780) 3819663927398918131021 530554712331789962982 := isPow_of_pm (k := 72) (by decide +kernel) (by decide +kernel)
  have d0 : 3 ^ (1 + 1) ∣ r - 1 := pock_one' (c := 424407103044324236780) p_3 hr hd (by decide +kernel) h1 g0 (by decide +kernel) (by decide)
  have g1 : IsPow 6 (5 ^ 0 * 763932785479783626204) 3819663927398918131021 1264382054878859116539 := isPow_of_pm (k := 72) (by decide +kernel) (by decide +kernel)
  have d1 : 5 ^ (0 + 1) ∣ r - 1 := pock_one' (c := 763932785479783626204) p_5 hr hd (by decide +kernel) h1 g1 (by decide +kernel) (by decide)
  have g2 : IsPow 6 (19 ^ 0 * 201034943547311480580) 3819663927398918131021 2100793206508130055452 := isPow_of_pm (k := 72) (by decide +kernel) (by decide +kernel)
  have d2 : 19 ^ (0 + 1) ∣ r - 1 := pock_one' (c := 201034943547311480580) p_19 hr hd (by decide +kernel) h1 g2 (by decide +kernel) (by decide)
  have g3 : IsPow 6 (113 ^ 0 * 33802335640698390540) 3819663927398918131021 1628125091342647799433 := isPow_of_pm (k := 72) (by decide +kernel) (by decide +kernel)
  have d3 : 113 ^ (0 + 1) ∣ r - 1 := pock_one' (c := 33802335640698390540) p_113 hr hd (by decide +kernel) h1 g3 (by decide +kernel) (by decide)
  have g4 : IsPow 6 (755057 ^ 0 * 5058775598926860) 3819663927398918131021 1089364184068859191737 := isPow_of_pm (k := 72) (by decide +kernel) (by decide +kernel)
  have d4 : 755057 ^ (0 + 1) ∣ r - 1 := pock_one' (c := 5058775598926860) p_755057 hr hd (by decide +kernel) h1 g4 (by decide +kernel) (by decide)
  have c1 := dvd_of_coprime_dvd (by decide +kernel) d0 d1
  have c2 := dvd_of_coprime_dvd (by decide +kernel) c1 d2
  have c3 := dvd_of_coprime_dvd (by decide +kernel) c2 d3
  have c4 := dvd_of_coprime_dvd (by decide +kernel) c3 d4
  exact cast (congrArg (· ∣ r - 1) (by decide +kernel)) c4

theorem p_1125266252156850182658904441386709967 : Prime 1125266252156850182658904441386709967 := by
  refine prime_of_all (F := 3819663927398918131021) (by decide) (by decide +kernel) fun r hr hd => ?_
  have h1 : IsPow 2 (1125266252156850182658904441386709967 - 1) 1125266252156850182658904441386709967 1 := isPow_of_pm (k := 120) (by decide +kernel) (by decide +kernel)
  have g0 : IsPow 2 (3819663927398918131021 ^ 0 * 294598235223046) 1125266252156850182658904441386709967 569094264676275985966734733593272495 := isPow_of_pm (k := 120) (by decide +kernel) (by decide +kernel)
  have d0 : 3819663927398918131021 ^ (0 + 1) ∣ r - 1 := pock_one' (c := 294598235223046) p_3819663927398918131021 hr hd (by decide +kernel) h1 g0 (by decide +kernel) (by decide)
  exact cast (congrArg (· ∣ r - 1) (by decide +kernel)) d0

theorem p_15778400344354997994418419698270088123916926905054652752758194827714659 : Prime 15778400344354997994418419698270088123916926905054652752758194827714659 := by
  refine prime_of_all (F := 1125266252156850182658904441386709967) (by decide) (by decide +kernel) fun r hr hd => ?_
  have h1 : IsPow 2 (15778400344354997994418419698270088123916926905054652752758194827714659 - 1) 15778400344354997994418419698270088123916926905054652752758194827714659 1 := isPow_of_pm (k := 234) (by decide +kernel) (by decide +kernel)
  have g0 : IsPow 2 (1125266252156850182658904441386709967 ^ 0 * 14021926201120671579994175730661374) 15778400344354997994418419698270088123916926905054652752758194827714659 584602478677671312863650330581164049005241475155695537731613712292485 := isPow_of_pm (k := 234) (by decide +kernel) (by decide +kernel)
  have d0 : 1125266252156850182658904441386709967 ^ (0 + 1) ∣ r - 1 := pock_one' (c := 14021926201120671579994175730661374) p_1125266252156850182658904441386709967 hr hd (by decide +kernel) h1 g0 (by decide +kernel) (by decide)
  exact cast (congrArg (· ∣ r - 1) (by decide +kernel)) d0

theorem p_4002409555221667393417789825735904156556882819939007885332058136124031650490837864442687629129015664037894272559787 : Prime 4002409555221667393417789825735904156556882819939007885332058136124031650490837864442687629129015664037894272559787 := by
  refine prime_of_all (F := 15778400344354997994418419698270088123916926905054652752758194827714659) (by decide) (by decide +kernel) fun r hr hd => ?_
  have h1 : IsPow 2 (4002409555221667393417789825735904156556882819939007885332058136124031650490837864442687629129015664037894272559787 - 1) 4002409555221667393417789825735904156556882819939007885332058136124031650490837864442687629129015664037894272559787 1 := isPow_of_pm (k := 381) (by decide +kernel) (by decide +kernel)
  have g0 : IsPow 2 (15778400344354997994418419698270088123916926905054652752758194827714659 ^ 0 * 253663835868735594330404923636534084567099854) 4002409555221667393417789825735904156556882819939007885332058136124031650490837864442687629129015664037894272559787 3857652229587791131170562170362777322661165158253241750951056708149380781976590789690115968560841332125271833377494 := isPow_of_pm (k := 381) (by decide +kernel) (by decide +kernel)
  have d0 : 15778400344354997994418419698270088123916926905054652752758194827714659 ^ (0 + 1) ∣ r - 1 := pock_one' (c := 253663835868735594330404923636534084567099854) p_15778400344354997994418419698270088123916926905054652752758194827714659 hr hd (by decide +kernel) h1 g0 (by decide +kernel) (by decide)
  exact cast (congrArg (· ∣ r - 1) (by decide +kernel)) d0

theorem p_10177 : Prime 10177 := prime_of_noDiv (k := 100) (by decide) (by decide +kernel) (by decide)

theorem p_125527 : Prime 125527 := prime_of_noDiv (k := 354) (by decide) (by decide +kernel) (by decide)

theorem p_47737 : Prime 47737 := prime_of_noDiv (k := 218) (by decide) (by decide +kernel) (by decide)

theorem p_859267 : Prime 859267 := by
  refine prime_of_all (F := 47737) (by decide) (by decide +kernel) fun r hr hd => ?_
  have h1 : IsPow 2 (859267 - 1) 859267 1 := isPow_of_pm (k := 20) (by decide +kernel) (by decide +kernel)
  have g0 : IsPow 2 (47737 ^ 0 * 18) 859267 262144 := isPow_of_pm (k := 20) (by decide +kernel) (by decide +kernel)
  have d0 : 47737 ^ (0 + 1) ∣ r - 1 := pock_one' (c := 18) p_47737 hr hd (by decide +kernel) h1 g0 (by decide +kernel) (by decide)
  exact cast (congrArg (· ∣ r - 1) (by decide +kernel)) d0

theorem p_1607 : Prime 1607 := prime_of_noDiv (k := 40) (by decide) (by decide +kernel) (by decide)

theorem p_906349 : Prime 906349 := by
  refine prime_of_all (F := 1607) (by decide) (by decide +kernel) fun r hr hd => ?_
  have h1 : IsPow 2 (906349 - 1) 906349 1 := isPow_of_pm (k := 20) (by decide +kernel) (by decide +kernel)
  have g0 : IsPow 2 (1607 ^ 0 * 564) 906349 210417 := isPow_of_pm (k := 20) (by decide +kernel) (by decide +kernel)
  have d0 : 1607 ^ (0 + 1) ∣ r - 1 := pock_one' (c := 564) p_1607 hr hd (by decide +kernel) h1 g0 (by decide +kernel) (by decide)
  exact cast (congrArg (· ∣ r - 1) (by decide +kernel)) d0

theorem p_52435875175126190479447740508185965837690552500527637822603658699938581184513 : Prime 52435875175126190479447740508185965837690552500527637822603658699938581184513 := by
  refine prime_of_all (F := 809435270409705325975970876576919191552) (by decide) (by decide +kernel) fun r hr hd => ?_
  have h1 : IsPow 5 (52435875175126190479447740508185965837690552500527637822603658699938581184513 - 1) 52435875175126190479447740508185965837690552500527637822603658699938581184513 1 := isPow_of_pm (k := 255) (by decide +kernel) (by decide +kernel)
  have g0 : IsPow 5 (2 ^ 31 * 12208678567578594777604504606729831043093128246378069236549469339647) 52435875175126190479447740508185965837690552500527637822603658699938581184513 52435875175126190479447740508185965837690552500527637822603658699938581184512 := isPow_of_pm (k := 255) (by decide +kernel) (by decide +kernel)
  have d0 : 2 ^ (31 + 1) ∣ r - 1 := pock_one' (c := 12208678567578594777604504606729831043093128246378069236549469339647) p_2 hr hd (by decide +kernel) h1 g0 (by decide +kernel) (by decide)
  have g1 : IsPow 5 (11 ^ 0 * 4766897743193290043586158228016905985244595681866148892963968972721689198592) 52435875175126190479447740508185965837690552500527637822603658699938581184513 23018359928796249160281600265894119056554178830089746663447279710197994863834 := isPow_of_pm (k := 255) (by decide +kernel) (by decide +kernel)
  have d1 : 11 ^ (0 + 1) ∣ r - 1 := pock_one' (c := 4766897743193290043586158228016905985244595681866148892963968972721689198592) p_11 hr hd (by decide +kernel) h1 g1 (by decide +kernel) (by decide)
  have g2 : IsPow 5 (19 ^ 0 * 2759782903954010025234091605693998201983713289501454622242297826312556904448) 52435875175126190479447740508185965837690552500527637822603658699938581184513 26300232065298937464272776779870295516039145203758637620839601591614240116856 := isPow_of_pm (k := 255) (by decide +kernel) (by decide +kernel)
  have d2 : 19 ^ (0 + 1) ∣ r - 1 := pock_one' (c := 2759782903954010025234091605693998201983713289501454622242297826312556904448) p_19 hr hd (by decide +kernel) h1 g2 (by decide +kernel) (by decide)
  have g3 : IsPow 5 (10177 ^ 0 * 5152390210781781515127025695999407078479959958782316775336902692339449856) 52435875175126190479447740508185965837690552500527637822603658699938581184513 50034688663438492827084050809052069449575114482737385733754039179490019137862 := isPow_of_pm (k := 255) (by decide +kernel) (by decide +kernel)
  have d3 : 10177 ^ (0 + 1) ∣ r - 1 := pock_one' (c := 5152390210781781515127025695999407078479959958782316775336902692339449856) p_10177 hr hd (by decide +kernel) h1 g3 (by decide +kernel) (by decide)
  have g4 : IsPow 5 (125527 ^ 0 * 417725869136729074059347714102830194601086240414633009811464136798765056) 52435875175126190479447740508185965837690552500527637822603658699938581184513 35269506936529487907587607870591106331311552803418284873280838766670474751416 := isPow_of_pm (k := 255) (by decide +kernel) (by decide +kernel)
  have d4 : 125527 ^ (0 + 1) ∣ r - 1 := pock_one' (c := 417725869136729074059347714102830194601086240414633009811464136798765056) p_125527 hr hd (by decide +kernel) h1 g4 (by decide +kernel) (by decide)
  have g5 : IsPow 5 (859267 ^ 0 * 61023960160376449321861238134579782346686830170980193377150127608692736) 52435875175126190479447740508185965837690552500527637822603658699938581184513 1724913300512590191096736605621202353586819886312334220892985408219267620854 := isPow_of_pm (k := 255) (by decide +kernel) (by decide +kernel)
  have d5 : 859267 ^ (0 + 1) ∣ r - 1 := pock_one' (c := 61023960160376449321861238134579782346686830170980193377150127608692736) p_859267 hr hd (by decide +kernel) h1 g5 (by decide +kernel) (by decide)
  have g6 : IsPow 5 (906349 ^ 1 * 63831874928265641722739442819312836421123199169656733959729446912) 52435875175126190479447740508185965837690552500527637822603658699938581184513 4681681615185861505731311821549842608922871405158480711315762820312151169802 := isPow_of_pm (k := 255) (by decide +kernel) (by decide +kernel)
  have d6 : 906349 ^ (1 + 1) ∣ r - 1 := pock_one' (c := 63831874928265641722739442819312836421123199169656733959729446912) p_906349 hr hd (by decide +kernel) h1 g6 (by decide +kernel) (by decide)
  have c1 := dvd_of_coprime_dvd (by decide +kernel) d0 d1
  have c2 := dvd_of_coprime_dvd (by decide +kernel) c1 d2
  have c3 := dvd_of_coprime_dvd (by decide +kernel) c2 d3
  have c4 := dvd_of_coprime_dvd (by decide +kernel) c3 d4
  have c5 := dvd_of_coprime_dvd (by decide +kernel) c4 d5
  have c6 := dvd_of_coprime_dvd (by decide +kernel) c5 d6
  exact cast (congrArg (· ∣ r - 1) (by decide +kernel)) c6

theorem prime_1 : Prime 115792089237316195423570985008687907853269984665640564039457584007908834671663 := p_115792089237316195423570985008687907853269984665640564039457584007908834671663
theorem prime_2 : Prime 115792089237316195423570985008687907852837564279074904382605163141518161494337 := p_115792089237316195423570985008687907852837564279074904382605163141518161494337
theorem prime_3 : Prime 21888242871839275222246405745257275088696311157297823662689037894645226208583 := p_21888242871839275222246405745257275088696311157297823662689037894645226208583
theorem prime_4 : Prime 21888242871839275222246405745257275088548364400416034343698204186575808495617 := p_21888242871839275222246405745257275088548364400416034343698204186575808495617
theorem prime_5 : Prime 4002409555221667393417789825735904156556882819939007885332058136124031650490837864442687629129015664037894272559787 := p_4002409555221667393417789825735904156556882819939007885332058136124031650490837864442687629129015664037894272559787
theorem prime_6 : Prime 52435875175126190479447740508185965837690552500527637822603658699938581184513 := p_52435875175126190479447740508185965837690552500527637822603658699938581184513
end Go.Proofs.Ytincemkjdgbnnaa.NT
